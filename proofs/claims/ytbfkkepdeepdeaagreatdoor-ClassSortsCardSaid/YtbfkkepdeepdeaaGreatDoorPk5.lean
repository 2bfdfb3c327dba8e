/- A part of the proof: The row of ClassSorts: for every input the statement returns true; and its card. -/
import Derived.Test.YtbfkkepdeepdeaaGreatDoorProg
import Derived.Deep.Slices
import Derived.ChangeArms
import Derived.KernelRfl
import Derived.Test.YtbfkkepdeepdeaaGreatDoorRows
import Derived.WalkKit
import Derived.ProofKit
import Derived.OpenShut
import Derived.ShutString
import Derived.ChangeOld
import Derived.Below
import Derived.SizedLaws
import Derived.Handed
import Derived.LaidMore
import Derived.Lib.LaidTab
import Derived.MakeChecks
import Derived.Stop.Joined
import Derived.Shelf.Vars
import Derived.Test.YtbfkkepdeepdeaaGreatDoorPk4
section
namespace Go.Proofs.YtbfkkepdeepdeaaGreatDoor
open Go Go.RowKit Go.Maps Go.Shelf Go.Proofs.YtbfkkepdeepdeaaGreatDoorW.PrintWords Go.Proofs.YtbfkkepdeepdeaaGreatDoorW.PrintLast Go.Proofs.YtbfkkepdeepdeaaGreatDoorW.PrintMore
set_option linter.unusedVariables false
set_option linter.unusedSimpArgs false
set_option maxRecDepth 100000
attribute [local go_sem] Oper.semAt_some
def fnd0 (xs : List En) (s : ByteArray) : Int := ((fnd xs s).getD 0 : Nat)
def cfOf (xs : List En) (m : Int) (a : Int × En) : List Ft :=
  (if fnd0 xs a.2.cls.name.text = a.1 then [] else [⟨a.2.file, a.2.cls.name.pos, 6⟩]) ++ (if a.2.cls.main = true ∧ m ≠ a.1 then [⟨a.2.file, a.2.cls.name.pos, 9⟩] else [])
def cf0 (m : Int) : List Ft := if m < 0 then [⟨0, 0, 9⟩] else []
def classFs (xs : List En) (m : Int) : List Ft := cf0 m ++ (sees xs xs.length).flatMap (cfOf xs m)
def cfA (xs : List En) (m : Int) (pre : List AE) : List Ft := cf0 m ++ (pre.map AE.key).flatMap (cfOf xs m)
theorem cfA_snoc (xs : List En) (m : Int) (pre : List AE) (a : AE) : cfA xs m (pre ++ [a]) = cfA xs m pre ++ cfOf xs m a.key := by simp [cfA]
theorem cfOf_len (xs : List En) (m : Int) (a : Int × En) : (cfOf xs m a).length ≤ 2 := by
  unfold cfOf
  rw [List.length_append]
  split <;> split <;> simp
theorem cfA_len (xs : List En) (m : Int) : ∀ l : List (Int × En), (l.flatMap (cfOf xs m)).length ≤ 2 * l.length
  | [] => by simp
  | a :: l => by
    have h1 := cfOf_len xs m a
    have h2 := cfA_len xs m l
    simp only [List.flatMap_cons, List.length_append, List.length_cons]
    omega
theorem cfA_le (xs : List En) (m : Int) (pre : List AE) : (cfA xs m pre).length ≤ 2 * pre.length + 1 := by
  have := cfA_len xs m (pre.map AE.key)
  rw [List.length_map] at this
  have h0 : (cf0 m).length ≤ 1 := by unfold cf0; split <;> simp
  unfold cfA
  rw [List.length_append]
  omega
theorem sub_putObj {W : World} {D : Nat} {r : Option (List Deferred)} (h : W.heap[D]? = some (.deferred r)) (o : Obj) : Sub W (W.putObj D o) := fun a v hc => by
  by_cases e : a.block = D
  · unfold World.cell? at hc; rw [e, h] at hc; cases hc
  · exact (World.cell?_of_block (World.putObj_heap_other e)).trans hc
theorem up_kFt : Up kFt := up_iso _ (up_pair (up_int _) (up_pair (up_int _) (up_int _)))
def ftR (x : Ft) (cs : List Value) : Prop := cs = cFt x
theorem look_runF {w : World} {mb N : Nat} {D : DataW Unit} {es : List En} (h : w.ownsMap Tryz.prog 9 (plainElem (H := Unit) Tryz.prog 3) mb N D) (hD : Names D es) {s : ByteArray} (hs : s.size ≤ maxLen) :
    (Instr.lookup 88 (.map (some mb)) (.string s) false).run Tryz.prog w = .ok (.int .i64 (fnd0 es s)) w := by
  obtain ⟨c, hrun, hat, -⟩ := h.lookup_int law9 Tryz.underlying88 Tryz.underlying3 (zero3 w) (Go.WideMaps.keyOf_string_mk Tryz.underlying9 hs)
  obtain ⟨-, h2⟩ := hD s hs
  rw [h2] at hat
  injection hat with hat
  injection hat with _ hat
  rw [hrun, ← hat]; rfl
structure FsI (w w0 : World) (tb bt : Nat) (xs : List En) (m : Int) (pre : List AE) (W : World) : Prop where
  xT : W.heap[w.heap.size]? = some (.cells #[.pointer (some ⟨tb, 0, none⟩)] 25 (0, 0))
  xA : W.heap[bt]? = some (.cells #[.pointer (some ⟨tb, 0, none⟩)] 25 (0, 0))
  out : ∃ v, W.heap[w.heap.size + 1]? = some (.cells #[v] 41 (0, 0)) ∧ OwnRow ftR 79 3 W (w.heap.size + 2) v (cfA xs m pre)
  bel : Below w.heap.size w W
  size : w0.heap.size ≤ W.heap.size
theorem fsi_own {w w0 : World} {tb bt : Nat} {xs : List En} {m : Int} (hw : w.heap.size ≤ w0.heap.size) : OwnFrom w0.heap.size (FsI w w0 tb bt xs m) := fun pre W W' row hs hg hr => by
  obtain ⟨v, h5, inner, ho, hrr⟩ := hs.out
  refine ⟨cells_kept hg hr hs.xT, cells_kept hg hr hs.xA, ⟨v, cells_kept hg hr h5, inner, own_move ho (fun k hk => ?_), hrr⟩, below_kept hs.bel hg (fun r e => Nat.le_trans hw (hr r e).1), Nat.le_trans hs.size hg.size⟩
  obtain ⟨cells, hc⟩ := own_typed ho k hk
  rw [cells_kept hg hr hc, hc]
section
variable {F : Fence} {n : Nat} {P : Program} {ops : Array Oper} {rest : List Oper} {o : Oper} {a : Act} {Q : Exit → Act → World → Prop} {α : Type} {R : α → List Value → Prop}
theorem OwnRow.appendAt {W : World} (base : Nat) (hgd : o.guard = none) (s x : Operand) (t e : TypeId) (z : Value) (size bytes : Nat)
    (ho : o.op = .call { callee := .builtin .append, args := #[s, x], argTypes := #[t, t] })
    (ht : P.underlying t = some (.slice e)) (hinfo : (P.info? e).map (fun i => (i.zero, i.size, i.bytes)) = some (some z, size, bytes)) (hz : z.cells.size = size) (hs0 : 0 < size) (hb0 : 0 < bytes)
    (v : Value) (ps : List α) (p : α) (cs : List Value) (hs : a.eval s = v) (hx : a.eval x = .slice (some ⟨W.heap.size, 0, none⟩) 1 1) (hp : R p cs) (hcs : cs.length = size) (h1 : ∀ u ∈ cs, u.oneCell' = true)
    (HO : OwnRow R e size W base v ps) (hbase : base ≤ W.heap.size) (hl : (ps.length + 1) * bytes ≤ 140737488355328)
    (h : ∀ v1 w1, OwnRow R e size w1 base v1 (ps ++ [p]) → W.grownBy w1 v.ownBlock → (v1.ownBlock = v.ownBlock ∨ ∃ b, v1.ownBlock = some b ∧ W.heap.size ≤ b) → wpListIn F n P ops Q rest (a.put o.dst v1) w1) :
    wpListIn F n P ops Q (o :: rest) a (W.alloc (.cells cs.toArray e)) := by
  obtain ⟨inner, hown, hr⟩ := HO
  obtain ⟨i, hi, h2, h3, h4⟩ : ∃ i, P.info? e = some i ∧ i.zero = some z ∧ i.size = size ∧ i.bytes = bytes := by
    cases hi : P.info? e with
    | none => rw [hi] at hinfo; cases hinfo
    | some i =>
      rw [hi] at hinfo
      simp only [Option.map_some, Option.some.injEq, Prod.mk.injEq] at hinfo
      exact ⟨i, rfl, hinfo.1, hinfo.2.1, hinfo.2.2⟩
  have hown2 : (W.alloc (.cells cs.toArray e)).ownsRow base e size v ps.length inner := own_move hown (fun k hk => Below.heap_alloc _ _ _ (own_lt hown k hk))
  have hll : ps.length + 1 ≤ 140737488355328 := Nat.le_trans (Nat.le_mul_of_pos_right _ hb0) hl
  refine wpListIn_append_own_at _ hgd s x t ho base e i z size bytes ht hi h2 h3 h4 hz hs0 v ps.length inner hs hown2 ⟨W.heap.size, 0, none⟩ 1 1 cs hx (by rw [Nat.one_mul]; exact hcs) (fun j u hu => ?_) h1 (by simp only [maxLen]; omega) hl (by simp; omega) (fun v1 w1 r1 r2 _ r4 => ?_)
  · rw [show ((⟨W.heap.size, 0, none⟩ : Addr).add j) = ⟨W.heap.size, j, none⟩ from by unfold Addr.add; split <;> simp_all]
    rw [cell_blk (heap_alloc_new W (.cells cs.toArray e)) j]
    simpa using hu
  · refine h v1 w1 ⟨inner ++ cs, by rw [List.length_append, List.length_singleton]; exact r1, hr.snoc hp hcs⟩ ⟨r2.os, r2.tape, r2.output, Nat.le_trans (by simp) r2.size, fun k hk hn => ?_⟩ (r4.imp id (fun e => ⟨_, e, by simp⟩))
    rw [r2.block k (by simp; omega) hn, Below.heap_alloc _ _ _ hk]
end
theorem look_runFN {w : World} {mb N : Nat} {D : DataW Unit} {es : List En} (h : w.ownsMap Tryz.prog 9 (plainElem (H := Unit) Tryz.prog 3) mb N D) (hD : Names D es) {s : ByteArray} (hs : s.size ≤ maxLen) (nq : Nat) :
    (Instr.lookup 88 (.map (some mb)) (.string s) false).run Tryz.prog (w.drewN nq) = .ok (.int .i64 (fnd0 es s)) (w.drewN nq) := look_runF (w := w.drewN nq) h hD hs
structure FsJ (w W : World) (tb bt Bx : Nat) (ec fc : Array Value) (v : Value) (l : List Ft) (V : World) : Prop where
  xT : V.heap[w.heap.size]? = some (.cells #[.pointer (some ⟨tb, 0, none⟩)] 25 (0, 0))
  xA : V.heap[bt]? = some (.cells #[.pointer (some ⟨tb, 0, none⟩)] 25 (0, 0))
  out : V.heap[w.heap.size + 1]? = some (.cells #[v] 41 (0, 0))
  row : OwnRow ftR 79 3 V (w.heap.size + 2) v l
  ne : ∀ b, v.ownBlock = some b → b ≠ W.heap.size
  ent : V.heap[Bx]? = some (.cells ec 38 (0, 0))
  flt : V.heap[W.heap.size]? = some (.cells fc 79 (0, 0))
  bel : Below w.heap.size w V
  belW : Below w.heap.size W V
  keep : KeepsOthers W V
  size : W.heap.size < V.heap.size
section
variable {w w0 W V V1 : World} {tb bt Bx : Nat} {ec fc : Array Value} {v v1 : Value} {l l1 : List Ft} {xs : List En} {m : Int} {pre pre' : List AE}
theorem FsJ.start (hI : FsI w w0 tb bt xs m pre W) (hX : W.heap[Bx]? = some (.cells ec 38 (0, 0))) (fc : Array Value) (nq : Nat) : ∃ v, W.heap[w.heap.size + 1]? = some (.cells #[v] 41 (0, 0)) ∧ FsJ w W tb bt Bx ec fc v (cfA xs m pre) ((W.alloc (.cells fc 79)).drewN nq) := by
  obtain ⟨v, hv, inner, ho, hr⟩ := hI.out
  have hk : ∀ k o, W.heap[k]? = some o → ((W.alloc (.cells fc 79)).drewN nq).heap[k]? = some o := fun k o h => (Below.heap_alloc _ _ k (Array.getElem?_eq_some_iff.1 h).1).trans h
  have hb : Below W.heap.size W ((W.alloc (.cells fc 79)).drewN nq) := pw_below_drewN ((Below.refl _ _).alloc (Nat.le_refl _) _) nq
  refine ⟨v, hv, hk _ _ hI.xT, hk _ _ hI.xA, hk _ _ hv, ⟨inner, own_move ho (fun k hk2 => ?_), hr⟩, fun b hb => Nat.ne_of_lt (own_lt ho b hb), hk _ _ hX, World.alloc_heap_new W _, hI.bel.trans (hb.mono hI.bel.size), hb.mono hI.bel.size, ⟨hb.size, fun k o h _ => hk k o h⟩, by show W.heap.size < (W.alloc _).heap.size; simp⟩
  obtain ⟨cells, hc⟩ := own_typed ho k hk2
  rw [hc]; exact hk _ _ hc
theorem FsJ.code (h : FsJ w W tb bt Bx ec fc v l V) (hw : w.heap.size + 1 < W.heap.size) (hbt : bt < W.heap.size) (hBx : Bx < W.heap.size) (c : Value) : FsJ w W tb bt Bx ec (fc.setIfInBounds 2 c) v l (V.setCell ⟨W.heap.size, 2, none⟩ c) := by
  obtain ⟨inner, ho, hr⟩ := h.row
  have hk : ∀ k, k ≠ W.heap.size → (V.setCell ⟨W.heap.size, 2, none⟩ c).heap[k]? = V.heap[k]? := fun k hk => Below.heap_setCell _ _ _ _ hk
  refine ⟨(hk _ (by omega)).trans h.xT, (hk _ (by omega)).trans h.xA, (hk _ (by omega)).trans h.out, ⟨inner, own_move ho (fun k hk2 => hk k (h.ne k hk2)), hr⟩, h.ne, (hk _ (by omega)).trans h.ent, heap_setCell_same h.flt 2 c, h.bel.setCell (p := ⟨W.heap.size, 2, none⟩) (by show w.heap.size ≤ W.heap.size; omega) _, h.belW.setCell (p := ⟨W.heap.size, 2, none⟩) (by show w.heap.size ≤ W.heap.size; omega) _, h.keep.trans (KeepsOthers.setCell _ _ _), by simpa using h.size⟩
theorem FsJ.mid (h : FsJ w W tb bt Bx ec fc v l V) (hg : V.grownBy V1 v.ownBlock) : V1.heap[w.heap.size + 1]? = some (.cells #[v] 41 (0, 0)) ∧ V1.heap[w.heap.size]? = some (.cells #[.pointer (some ⟨tb, 0, none⟩)] 25 (0, 0)) ∧ V1.heap[Bx]? = some (.cells ec 38 (0, 0)) ∧ V1.heap[W.heap.size]? = some (.cells fc 79 (0, 0)) ∧ Below w.heap.size w V1 := by
  obtain ⟨inner, ho, hr⟩ := h.row
  have hk : ∀ k cs T, V.heap[k]? = some (.cells cs T (0, 0)) → some k ≠ v.ownBlock → V1.heap[k]? = some (.cells cs T (0, 0)) := fun k cs T hc hn => (hg.block k (Array.getElem?_eq_some_iff.1 hc).1 hn).trans hc
  have ht : ∀ k cs T, V.heap[k]? = some (.cells cs T (0, 0)) → T ≠ 79 → some k ≠ v.ownBlock := fun k cs T hc hT e => by
    obtain ⟨cells, hcc⟩ := own_typed ho k e.symm
    rw [hc] at hcc; cases hcc; exact hT rfl
  refine ⟨hk _ _ _ h.out (ht _ _ _ h.out (by decide)), hk _ _ _ h.xT (ht _ _ _ h.xT (by decide)), hk _ _ _ h.ent (ht _ _ _ h.ent (by decide)), hk _ _ _ h.flt (fun e => h.ne _ e.symm rfl), h.bel.trans ⟨hg.os, hg.tape, hg.output, hg.size, fun k hk => hg.block k (Nat.lt_of_lt_of_le hk h.bel.size) (fun e => by have := own_base ho k e.symm; omega)⟩⟩
theorem FsJ.app (h : FsJ w W tb bt Bx ec fc v l V) (hw : w.heap.size + 1 < W.heap.size) (hbt : bt ≠ w.heap.size + 1) (hBx : Bx ≠ w.heap.size + 1) (hO : OwnRow ftR 79 3 V1 (w.heap.size + 2) v1 l1) (hg : V.grownBy V1 v.ownBlock) (hat : v1.ownBlock = v.ownBlock ∨ ∃ b, v1.ownBlock = some b ∧ V.heap.size ≤ b) :
    FsJ w W tb bt Bx ec fc v1 l1 (V1.setCell ⟨w.heap.size + 1, 0, none⟩ v1) := by
  obtain ⟨h1, h2, h3, h4, h5⟩ := h.mid hg
  obtain ⟨inner, ho, hr⟩ := h.row
  obtain ⟨inner1, ho1, hr1⟩ := hO
  have hA : V1.heap[bt]? = some (.cells #[.pointer (some ⟨tb, 0, none⟩)] 25 (0, 0)) := (hg.block bt (Array.getElem?_eq_some_iff.1 h.xA).1 (fun e => by
    obtain ⟨cells, hcc⟩ := own_typed ho bt e.symm
    rw [h.xA] at hcc; cases hcc)).trans h.xA
  have hk : ∀ k, k ≠ w.heap.size + 1 → (V1.setCell ⟨w.heap.size + 1, 0, none⟩ v1).heap[k]? = V1.heap[k]? := fun k hk => Below.heap_setCell _ _ _ _ hk
  have hgB : Below w.heap.size V V1 := ⟨hg.os, hg.tape, hg.output, hg.size, fun k hk => hg.block k (Nat.lt_of_lt_of_le hk h.bel.size) (fun e => by have := own_base ho k e.symm; omega)⟩
  refine ⟨(hk _ (by omega)).trans h2, (hk _ hbt).trans hA, one_setCell h1, ⟨inner1, own_move ho1 (fun k hk2 => hk k (by have := own_base ho1 k hk2; omega)), hr1⟩, fun b hb => ?_, (hk _ hBx).trans h3, (hk _ (by omega)).trans h4, h5.setCell (p := ⟨w.heap.size + 1, 0, none⟩) (by show w.heap.size ≤ w.heap.size + 1; omega) _, (h.belW.trans hgB).setCell (p := ⟨w.heap.size + 1, 0, none⟩) (by show w.heap.size ≤ w.heap.size + 1; omega) _, (h.keep.trans (KeepsOthers.of_grownBy hg (fun j o hj hjo => ?_))).trans (KeepsOthers.setCell _ _ _), ?_⟩
  · rcases hat with e | ⟨b2, e, hb2⟩
    · rw [e] at hb; exact h.ne b hb
    · rw [e] at hb; cases hb; have := h.size; omega
  · obtain ⟨cells, hc⟩ := own_typed ho j hj
    rw [hjo] at hc; cases hc; rfl
  · have := hg.size; have := h.size; simp; omega
theorem FsJ.fin (h : FsJ w W tb bt Bx ec fc v (cfA xs m pre') V) (hI : FsI w w0 tb bt xs m pre W) (B : Nat) : KeepsFrom B W V ∧ KpA w.heap.size bt W V ∧ FsI w w0 tb bt xs m pre' V :=
  ⟨h.keep.from B, ⟨h.belW, h.xA.trans hI.xA.symm⟩, ⟨h.xT, h.xA, ⟨v, h.out, h.row⟩, h.bel, by have := h.size; have := hI.size; omega⟩⟩
end
set_option maxHeartbeats 4000000 in
theorem CFaults_calls {w : World} {tb : Nat} {xs : List En} {m : Int} (T : Tab w tb xs m) (hsh : xs.length ≤ 100000) :
    Calls Tryz.prog 12 #[.pointer (some ⟨tb, 0, none⟩)] w fun e w' => ∃ A' c', e = .returned (.slice A' (setF (classFs xs m)).length c') ∧ Kd.C kFt w' A' (setF (classFs xs m)).length (setF (classFs xs m)) ∧ Below w.heap.size w w' := by
  have HT := Lib.hid T
  obtain ⟨⟨A, c, mb, N, D, g0, g1, g2, g3, g4, g5⟩, -⟩ := T
  have htb := cell_block g0
  refine (callsIn_wide (n := 3)).1 ?_
  refine callsIn_of_wp_marks Tryz.func12 rfl trivial ?_ rfl
  simp only [Tryz.ntmps12, List.size_toArray, List.length_cons, List.length_nil, Nat.reduceAdd, Nat.reduceSub, Array.replicate_succ, Array.replicate_zero, List.push_toArray, List.append_toArray, List.nil_append, List.cons_append]
  refine wpIn_wide.2 ?_
  have h2 : ((w.alloc (.cells #[.pointer (some ⟨tb, 0, none⟩)] 25)).alloc (.cells #[.slice none 0 0] 41)).cell? ⟨tb, 2, none⟩ = some (.int .i64 m) := cell_later (((Below.refl _ _).alloc (Nat.le_refl _) _).alloc (by simp) _) g2
  by_cases hm : m < 0
  · have HO0 := Lib.hid (OwnRow.none_ ftR 79 3 ((w.alloc (.cells #[.pointer (some ⟨tb, 0, none⟩)] 25)).alloc (.cells #[.slice none 0 0] 41)) (w.heap.size + 2))
    have HX0 := Lib.hid (show ((w.alloc (.cells #[.pointer (some ⟨tb, 0, none⟩)] 25)).alloc (.cells #[.slice none 0 0] 41)).heap[w.heap.size + 1]? = some (.cells #[.slice none 0 0] 41 (0, 0)) by
      have := heap_alloc_new (w.alloc (.cells #[.pointer (some ⟨tb, 0, none⟩)] 25)) (.cells #[.slice none 0 0] 41); rwa [World.size_alloc] at this)
    have HT0 := Lib.hid (show ((w.alloc (.cells #[.pointer (some ⟨tb, 0, none⟩)] 25)).alloc (.cells #[.slice none 0 0] 41)).heap[w.heap.size]? = some (.cells #[.pointer (some ⟨tb, 0, none⟩)] 25 (0, 0)) by
      rw [Below.heap_alloc _ _ _ (by simp)]; exact heap_alloc_new w _)
    clear g0 g1 g3
    go_wp2_with (at_builtin; refine OwnRow.append (R := ftR) (w0 := (w.alloc (.cells #[.pointer (some ⟨tb, 0, none⟩)] 25)).alloc (.cells #[.slice none 0 0] 41)) (w.heap.size + 2) rfl (.tmp 14) (.tmp 16) 41 79 (.agg #[.int .i64 0, .int .i64 0, .int .i64 0]) 3 24 rfl (by kernel_rfl) (by kernel_rfl) rfl (by decide) (by decide) (.slice none 0 0) [] ⟨0, 0, 9⟩ [.int .i64 0, .int .i64 0, .int .i64 9] rfl (by rw [World.size_alloc, World.size_alloc]; rfl) rfl rfl (by simp [Value.oneCell']) HO0.out (Below.refl _ _) (by simp) (by decide) ?_; intro v5 w5 hO5 hB5 hg5 hat5; have hx5 := (hg5.block (w.heap.size + 1) (by simp) (fun e => by cases e)).trans HX0.out; have hxT5 := (hg5.block w.heap.size (by simp; omega) (fun e => by cases e)).trans HT0.out; have yT5 := (cell_blk hxT5 0).trans rfl; have y5 := (cell_blk hx5 0).trans rfl; have f5 := frozen_blk hx5 0; obtain ⟨A5, c5, e5, -⟩ := hO5.slice_; subst e5)
    refine (All_tbl_calls _).mono ?_
    rintro e w1 ⟨rfl, hw1⟩
    have hsz5 : w.heap.size + 2 ≤ w5.heap.size := by have := hg5.size; simpa using this
    have hI1 : FsI w w1 tb w5.heap.size xs m [] w1 := by
      have hO6 : OwnRow ftR 79 3 ((w5.setCell ⟨w.heap.size + 1, 0, none⟩ (.slice A5 1 c5)).alloc (.cells #[.pointer (some ⟨tb, 0, none⟩)] 25)) (w.heap.size + 2) (.slice A5 1 c5) (cfA xs m []) := by
        have e : cfA xs m [] = [⟨0, 0, 9⟩] := by unfold cfA cf0; rw [if_pos (by omega)]; rfl
        rw [e]
        obtain ⟨inner, ho, hr⟩ := hO5
        refine ⟨inner, own_move ho (fun k hk => ?_), hr⟩
        have hb := own_base ho k hk
        have hlt := own_lt ho k hk
        rw [Below.heap_alloc _ _ _ (by simpa using hlt)]
        exact Below.heap_setCell _ _ _ _ (by show k ≠ w.heap.size + 1; omega)
      rw [hw1]
      refine ⟨?_, ?_, ⟨_, ?_, hO6⟩, ?_, Nat.le_refl _⟩
      · rw [Below.heap_alloc _ _ _ (by simp; omega), Below.heap_setCell _ _ _ _ (by simp)]; exact hxT5
      · have := heap_alloc_new (w5.setCell ⟨w.heap.size + 1, 0, none⟩ (.slice A5 1 c5)) (.cells #[.pointer (some ⟨tb, 0, none⟩)] 25); simpa using this
      · rw [Below.heap_alloc _ _ _ (by simp; omega)]; exact one_setCell hx5
      · exact ((((((Below.refl w.heap.size w).alloc (Nat.le_refl _) _).alloc (by simp) _).trans ⟨hg5.os, hg5.tape, hg5.output, hg5.size, fun k hk => hg5.block k (by simp; omega) (fun e => by cases e)⟩).setCell (p := ⟨w.heap.size + 1, 0, none⟩) (by show w.heap.size ≤ w.heap.size + 1; omega) _).alloc (by simp; omega) _)
    have HI1 := Lib.hid hI1
    have hs1 : w5.heap.size < w1.heap.size := by rw [hw1]; simp
    have hTW : ∀ W', Below w.heap.size w1 W' → Tab W' tb xs m := fun W' h => HT.out.later (HI1.out.bel.trans h)
    clear hI1 hw1
    go_wp2_with fail
    refine (wpIn_wide (n := 3)).1 ?_
    refine wpIn_rangeFunc_ownH (F := Fence.wide) (n := 3) (w := w1) (w0 := w1) rfl (by decide) (gf := 30) (lb := #[.pointer (some ⟨w5.heap.size, 0, none⟩)]) rfl trivial (enters_of Tryz.func30 (by kernel_rfl) rfl)
      (all_stops (n := 2) (by decide) (n₀ := w.heap.size) (by omega) hTW HI1.out.xA) (fun h k => h.trans k) (fun W l o o' hl _ _ _ => ⟨below_putObj (Below.refl _ _) (by omega) _, World.putObj_heap_other (by omega)⟩) (Below.refl _ _) (fun _ => rfl)
      (FsI w w1 tb w5.heap.size xs m) (fun _ _ _ => False) (fsi_own (by omega)) (fun _ _ _ _ _ hs _ _ => hs) HI1.out
      (fun x a' W => ∃ Bx, w1.heap.size ≤ Bx ∧ W.heap[Bx]? = some (.cells (eCells x.x x.A6 x.c6 x.A7 x.c7 x.A10 x.c10) 38 (0, 0)) ∧ a' = { tmps := #[.pointer (some ⟨tb, 0, none⟩), .pointer (some ⟨w.heap.size, 0, none⟩), .slice none 0 0, .pointer (some ⟨w.heap.size + 1, 0, none⟩), .int .i64 x.j, .pointer (some ⟨Bx, 0, none⟩), undef, .pointer (some ⟨tb, 0, none⟩), .bool false, .pointer (some ⟨tb, 0, none⟩), .pointer (some ⟨tb, 0, none⟩), .pointer (some ⟨tb, 2, none⟩), .int .i64 m, .bool true, .slice none 0 0, .agg #[.int .i64 0, .int .i64 0, .int .i64 9], .slice (some ⟨w.heap.size + 1 + 1, 0, none⟩) 1 1, .slice A5 1 c5, .pointer (some ⟨tb, 0, none⟩), .func (.func 30) #[] #[.pointer (some ⟨w5.heap.size, 0, none⟩)], .int .i64 x.j, .agg (eCells x.x x.A6 x.c6 x.A7 x.c7 x.A10 x.c10), undef, undef, undef, undef, undef, undef, undef, undef, undef, undef, undef, undef, undef, undef, undef, undef, undef, undef, undef, undef, undef, undef, undef, undef, undef, undef, undef, undef, undef, undef, undef, undef, undef, undef, undef, undef, undef, undef, undef, undef, undef], defers := [] })
      ?hax ?assign ?body ?done ?stop
    case hax =>
      intro x a'
      rintro _ W W' row ⟨Bx, h1, h2, h3⟩ hg hr
      exact ⟨Bx, h1, cells_kept hg hr h2, h3⟩
    case assign =>
      rintro l pre x W K hi hK
      gi_wp2
      exact hK _ _ ((KeepsOthers.alloc _ _).from _) ⟨(Below.refl _ W).alloc (by have := hi.size; omega) _, Below.heap_alloc _ _ _ (Array.getElem?_eq_some_iff.1 hi.xA).1⟩ ((fsi_own (by omega)).alloc _ hi) ⟨W.heap.size, hi.size, World.alloc_heap_new _ _, rfl⟩
    case body =>
      rintro l pre x a' W hl ⟨r, hr⟩ hI ⟨Bx, hBx, hX, rfl⟩ hlt
      have hsz := hI.size
      have hbw : w.heap.size + 1 < W.heap.size := by omega
      have hbtW : w5.heap.size < W.heap.size := by omega
      have hBl : Bx < W.heap.size := (Array.getElem?_eq_some_iff.1 hX).1
      have x0 := (cell_blk hX 0).trans rfl
      have x3 := (cell_blk hX 3).trans rfl
      obtain ⟨⟨A9, c9, mb9, N9, D9, -, t1, -, -, t4, t5⟩, -⟩ := HT.out.later hI.bel
      have HII := Lib.hid hI
      have HXX := Lib.hid hX
      have hle := cfA_le xs m pre
      have hnm := x.hs.1
      obtain ⟨w3, hw3⟩ : ∃ w3, w3 = W.alloc (.cells #[.int .i64 x.x.file, .int .i64 x.x.cls.name.pos, .int .i64 0] 79) := ⟨_, rfl⟩
      have hB3 : Below W.heap.size W w3 := by rw [hw3]; exact (Below.refl _ _).alloc (Nat.le_refl _) _
      have yT := (cell_blk ((hB3.block _ (by omega)).trans hI.xT) 0).trans rfl
      have yM := cell_later hB3 t1
      have yN := (cell_blk ((hB3.block _ hBl).trans hX) 2).trans rfl
      obtain ⟨d0, hdd⟩ : ∃ d0, d0 = fnd0 xs x.x.cls.name.text := ⟨_, rfl⟩
      have hlk := fun nq => look_runFN (w := w3) (by rw [hw3]; exact t4.alloc _) t5 hnm nq
      rw [← hdd] at hlk
      clear hI hX t1 t4 t5 hr hB3
      have HDD := Lib.hid hdd
      gi_wp2
      rw [← hw3]
      have HW3 := Lib.hid hw3
      clear hw3 hdd
      refine region_quiet_round (by kernel_rfl) (by kernel_rfl) (by kernel_rfl) ?_
      repeat (gi_big_quiet_step (fail))
      refine wpQuietIn_nil ?_
      intro _ hw'
      obtain ⟨nq, hw''⟩ := hw'
      subst hw''
      obtain ⟨v, hv, hJ⟩ := FsJ.start HII.out HXX.out #[.int .i64 x.x.file, .int .i64 x.x.cls.name.pos, .int .i64 0] nq
      rw [← HW3.out] at hJ
      obtain ⟨V, hV⟩ : ∃ V, V = w3.drewN nq := ⟨_, rfl⟩
      rw [← hV] at hJ ⊢
      have o0 := (cell_blk hJ.out 0).trans rfl
      have fo := frozen_blk hJ.out 0
      have tT := (cell_blk hJ.xT 0).trans rfl
      have eM : V.cell? ⟨Bx, 1, none⟩ = some (.bool x.x.cls.main) := (cell_blk hJ.ent 1).trans rfl
      have q0 := (cell_blk hJ.flt 0).trans rfl
      have q1 := (cell_blk hJ.flt 1).trans rfl
      have q2 := (cell_blk hJ.flt 2).trans rfl
      have fq := frozen_blk hJ.flt 2
      have tM := (World.cell?_of_block (a := ⟨tb, 2, none⟩) (hJ.bel.block tb htb)).trans g2
      have HJ := Lib.hid hJ
      obtain ⟨Av, cv, ev, -⟩ := hJ.row.slice_
      obtain ⟨nv, hnv⟩ : ∃ q, q = (cfA xs m pre).length := ⟨_, rfl⟩
      rw [← hnv] at ev
      clear hnv
      clear hV hJ hv x0 x3 yT yM yN hlk
      subst ev
      have hmm : x.x.cls.main = false ∨ (x.x.cls.main = true ∧ m = x.j) ∨ (x.x.cls.main = true ∧ m ≠ x.j) := by cases x.x.cls.main <;> simp; omega
      by_cases hd : d0 = x.j
      · skip
        have hd1 : (d0 != x.j) = false := by simpa using hd
        have HD1 := Lib.hid hd
        clear hd
        rcases hmm with hmm | ⟨hmm, hmj⟩ | ⟨hmm, hmj⟩
        · have HM := Lib.hid hmm
          clear hmm
          rw [HM.out] at eM
          have HF := Lib.hid (show cfA xs m (pre ++ [x]) = cfA xs m pre by rw [cfA_snoc]; unfold cfOf AE.key; simp only; rw [← HDD.out, if_pos HD1.out, if_neg (fun h => by have := HM.out; rw [this] at h; cases h.1)]; simp)
          gi_wp2
          have hfin := HJ.out
          rw [← HF.out] at hfin
          exact hfin.fin HII.out _
        · have HM := Lib.hid hmm
          have HMJ := Lib.hid hmj
          have hmj1 : (m != x.j) = false := by simpa using hmj
          clear hmm hmj
          rw [HM.out] at eM
          have HF := Lib.hid (show cfA xs m (pre ++ [x]) = cfA xs m pre by rw [cfA_snoc]; unfold cfOf AE.key; simp only; rw [← HDD.out, if_pos HD1.out, if_neg (fun h => h.2 HMJ.out)]; simp)
          gi_wp2
          have hfin := HJ.out
          rw [← HF.out] at hfin
          exact hfin.fin HII.out _
        · have HM := Lib.hid hmm
          have HMJ := Lib.hid hmj
          have hmj1 : (m != x.j) = true := by simpa using hmj
          clear hmm hmj
          rw [HM.out] at eM
          have HF := Lib.hid (show cfA xs m (pre ++ [x]) = cfA xs m pre ++ [⟨x.x.file, x.x.cls.name.pos, 9⟩] by rw [cfA_snoc]; unfold cfOf AE.key; simp only; rw [← HDD.out, if_pos HD1.out, if_pos ⟨HM.out, HMJ.out⟩]; simp)
          have HJd := Lib.hid (HJ.out.code hbw hbtW hBl (.int .i64 9))
          gi_wp2_with (gi_at_builtin; refine OwnRow.appendAt (R := ftR) (w.heap.size + 2) rfl (.tmp 57) (.tmp 59) 41 79 (.agg #[.int .i64 0, .int .i64 0, .int .i64 0]) 3 24 rfl (by kernel_rfl) (by kernel_rfl) rfl (by decide) (by decide) (.slice Av nv cv) (cfA xs m pre) ⟨x.x.file, x.x.cls.name.pos, 9⟩ [.int .i64 x.x.file, .int .i64 x.x.cls.name.pos, .int .i64 9] rfl (by rw [World.size_setCell]; first | rfl | (rw [World.size_setCell]; rfl)) rfl rfl (by simp [Value.oneCell']) HJd.out.row (by have := HJd.out.size; omega) (by first | omega | (simp only [List.length_append, List.length_singleton]; omega)) ?_; intro v2 V2 hO2 hg2 hat2; have J2m := HJd.out.mid hg2; have o2 := (cell_blk J2m.1 0).trans rfl; have fo2 := frozen_blk J2m.1 0; have tT2 := (cell_blk J2m.2.1 0).trans rfl; have eM2 : V2.cell? ⟨Bx, 1, none⟩ = some (.bool x.x.cls.main) := (cell_blk J2m.2.2.1 1).trans rfl; rw [HM.out] at eM2; have q02 := (cell_blk J2m.2.2.2.1 0).trans rfl; have q12 := (cell_blk J2m.2.2.2.1 1).trans rfl; have q22 := (cell_blk J2m.2.2.2.1 2).trans rfl; have fq2 := frozen_blk J2m.2.2.2.1 2; have tM2 := (World.cell?_of_block (a := ⟨tb, 2, none⟩) (J2m.2.2.2.2.block tb htb)).trans g2; have HJ2 := Lib.hid (HJd.out.app hbw (by omega) (by omega) hO2 hg2 hat2); (obtain ⟨A2, c2, e2, -⟩ := hO2.slice_); (obtain ⟨n2, hn2⟩ : ∃ q, q = (cfA xs m pre ++ [(⟨x.x.file, x.x.cls.name.pos, 9⟩ : Ft)]).length := ⟨_, rfl⟩); rw [← hn2] at e2; clear hn2 hO2 hg2 hat2 J2m; subst e2)
          have hfin := HJ2.out
          rw [← HF.out] at hfin
          exact hfin.fin HII.out _
      · skip
        have hd1 : (d0 != x.j) = true := by simpa using hd
        have HD1 := Lib.hid hd
        clear hd
        rcases hmm with hmm | ⟨hmm, hmj⟩ | ⟨hmm, hmj⟩
        · have HM := Lib.hid hmm
          clear hmm
          rw [HM.out] at eM
          have HF := Lib.hid (show cfA xs m (pre ++ [x]) = cfA xs m pre ++ [⟨x.x.file, x.x.cls.name.pos, 6⟩] by rw [cfA_snoc]; unfold cfOf AE.key; simp only; rw [← HDD.out, if_neg HD1.out, if_neg (fun h => by have := HM.out; rw [this] at h; cases h.1)]; simp)
          have HJc := Lib.hid (HJ.out.code hbw hbtW hBl (.int .i64 6))
          gi_wp2_with (gi_at_builtin; refine OwnRow.appendAt (R := ftR) (w.heap.size + 2) rfl (.tmp 41) (.tmp 43) 41 79 (.agg #[.int .i64 0, .int .i64 0, .int .i64 0]) 3 24 rfl (by kernel_rfl) (by kernel_rfl) rfl (by decide) (by decide) (.slice Av nv cv) (cfA xs m pre) ⟨x.x.file, x.x.cls.name.pos, 6⟩ [.int .i64 x.x.file, .int .i64 x.x.cls.name.pos, .int .i64 6] rfl (by rw [World.size_setCell]; first | rfl | (rw [World.size_setCell]; rfl)) rfl rfl (by simp [Value.oneCell']) HJc.out.row (by have := HJc.out.size; omega) (by first | omega | (simp only [List.length_append, List.length_singleton]; omega)) ?_; intro v1 V1 hO1 hg1 hat1; have J1m := HJc.out.mid hg1; have o1 := (cell_blk J1m.1 0).trans rfl; have fo1 := frozen_blk J1m.1 0; have tT1 := (cell_blk J1m.2.1 0).trans rfl; have eM1 : V1.cell? ⟨Bx, 1, none⟩ = some (.bool x.x.cls.main) := (cell_blk J1m.2.2.1 1).trans rfl; rw [HM.out] at eM1; have q01 := (cell_blk J1m.2.2.2.1 0).trans rfl; have q11 := (cell_blk J1m.2.2.2.1 1).trans rfl; have q21 := (cell_blk J1m.2.2.2.1 2).trans rfl; have fq1 := frozen_blk J1m.2.2.2.1 2; have tM1 := (World.cell?_of_block (a := ⟨tb, 2, none⟩) (J1m.2.2.2.2.block tb htb)).trans g2; have HJ1 := Lib.hid (HJc.out.app hbw (by omega) (by omega) hO1 hg1 hat1); (obtain ⟨A1, c1, e1, -⟩ := hO1.slice_); (obtain ⟨n1, hn1⟩ : ∃ q, q = (cfA xs m pre ++ [(⟨x.x.file, x.x.cls.name.pos, 6⟩ : Ft)]).length := ⟨_, rfl⟩); rw [← hn1] at e1; clear hn1 hO1 hg1 hat1 J1m; subst e1)
          have hfin := HJ1.out
          rw [← HF.out] at hfin
          exact hfin.fin HII.out _
        · have HM := Lib.hid hmm
          have HMJ := Lib.hid hmj
          have hmj1 : (m != x.j) = false := by simpa using hmj
          clear hmm hmj
          rw [HM.out] at eM
          have HF := Lib.hid (show cfA xs m (pre ++ [x]) = cfA xs m pre ++ [⟨x.x.file, x.x.cls.name.pos, 6⟩] by rw [cfA_snoc]; unfold cfOf AE.key; simp only; rw [← HDD.out, if_neg HD1.out, if_neg (fun h => h.2 HMJ.out)]; simp)
          have HJc := Lib.hid (HJ.out.code hbw hbtW hBl (.int .i64 6))
          gi_wp2_with (gi_at_builtin; refine OwnRow.appendAt (R := ftR) (w.heap.size + 2) rfl (.tmp 41) (.tmp 43) 41 79 (.agg #[.int .i64 0, .int .i64 0, .int .i64 0]) 3 24 rfl (by kernel_rfl) (by kernel_rfl) rfl (by decide) (by decide) (.slice Av nv cv) (cfA xs m pre) ⟨x.x.file, x.x.cls.name.pos, 6⟩ [.int .i64 x.x.file, .int .i64 x.x.cls.name.pos, .int .i64 6] rfl (by rw [World.size_setCell]; first | rfl | (rw [World.size_setCell]; rfl)) rfl rfl (by simp [Value.oneCell']) HJc.out.row (by have := HJc.out.size; omega) (by first | omega | (simp only [List.length_append, List.length_singleton]; omega)) ?_; intro v1 V1 hO1 hg1 hat1; have J1m := HJc.out.mid hg1; have o1 := (cell_blk J1m.1 0).trans rfl; have fo1 := frozen_blk J1m.1 0; have tT1 := (cell_blk J1m.2.1 0).trans rfl; have eM1 : V1.cell? ⟨Bx, 1, none⟩ = some (.bool x.x.cls.main) := (cell_blk J1m.2.2.1 1).trans rfl; rw [HM.out] at eM1; have q01 := (cell_blk J1m.2.2.2.1 0).trans rfl; have q11 := (cell_blk J1m.2.2.2.1 1).trans rfl; have q21 := (cell_blk J1m.2.2.2.1 2).trans rfl; have fq1 := frozen_blk J1m.2.2.2.1 2; have tM1 := (World.cell?_of_block (a := ⟨tb, 2, none⟩) (J1m.2.2.2.2.block tb htb)).trans g2; have HJ1 := Lib.hid (HJc.out.app hbw (by omega) (by omega) hO1 hg1 hat1); (obtain ⟨A1, c1, e1, -⟩ := hO1.slice_); (obtain ⟨n1, hn1⟩ : ∃ q, q = (cfA xs m pre ++ [(⟨x.x.file, x.x.cls.name.pos, 6⟩ : Ft)]).length := ⟨_, rfl⟩); rw [← hn1] at e1; clear hn1 hO1 hg1 hat1 J1m; subst e1)
          have hfin := HJ1.out
          rw [← HF.out] at hfin
          exact hfin.fin HII.out _
        · have HM := Lib.hid hmm
          have HMJ := Lib.hid hmj
          have hmj1 : (m != x.j) = true := by simpa using hmj
          clear hmm hmj
          rw [HM.out] at eM
          have HF := Lib.hid (show cfA xs m (pre ++ [x]) = cfA xs m pre ++ [⟨x.x.file, x.x.cls.name.pos, 6⟩] ++ [⟨x.x.file, x.x.cls.name.pos, 9⟩] by rw [cfA_snoc]; unfold cfOf AE.key; simp only; rw [← HDD.out, if_neg HD1.out, if_pos ⟨HM.out, HMJ.out⟩]; simp)
          have HJc := Lib.hid (HJ.out.code hbw hbtW hBl (.int .i64 6))
          gi_wp2_with (first | (gi_at_builtin; refine OwnRow.appendAt (R := ftR) (w.heap.size + 2) rfl (.tmp 41) (.tmp 43) 41 79 (.agg #[.int .i64 0, .int .i64 0, .int .i64 0]) 3 24 rfl (by kernel_rfl) (by kernel_rfl) rfl (by decide) (by decide) (.slice Av nv cv) (cfA xs m pre) ⟨x.x.file, x.x.cls.name.pos, 6⟩ [.int .i64 x.x.file, .int .i64 x.x.cls.name.pos, .int .i64 6] rfl (by rw [World.size_setCell]; first | rfl | (rw [World.size_setCell]; rfl)) rfl rfl (by simp [Value.oneCell']) HJc.out.row (by have := HJc.out.size; omega) (by first | omega | (simp only [List.length_append, List.length_singleton]; omega)) ?_; intro v1 V1 hO1 hg1 hat1; have J1m := HJc.out.mid hg1; have o1 := (cell_blk J1m.1 0).trans rfl; have fo1 := frozen_blk J1m.1 0; have tT1 := (cell_blk J1m.2.1 0).trans rfl; have eM1 : V1.cell? ⟨Bx, 1, none⟩ = some (.bool x.x.cls.main) := (cell_blk J1m.2.2.1 1).trans rfl; rw [HM.out] at eM1; have q01 := (cell_blk J1m.2.2.2.1 0).trans rfl; have q11 := (cell_blk J1m.2.2.2.1 1).trans rfl; have q21 := (cell_blk J1m.2.2.2.1 2).trans rfl; have fq1 := frozen_blk J1m.2.2.2.1 2; have tM1 := (World.cell?_of_block (a := ⟨tb, 2, none⟩) (J1m.2.2.2.2.block tb htb)).trans g2; have HJ1 := Lib.hid (HJc.out.app hbw (by omega) (by omega) hO1 hg1 hat1); (obtain ⟨A1, c1, e1, -⟩ := hO1.slice_); (obtain ⟨n1, hn1⟩ : ∃ q, q = (cfA xs m pre ++ [(⟨x.x.file, x.x.cls.name.pos, 6⟩ : Ft)]).length := ⟨_, rfl⟩); rw [← hn1] at e1; clear hn1 hO1 hg1 hat1 J1m; subst e1) | (gi_at_builtin; have HJd := Lib.hid (HJ1.out.code hbw hbtW hBl (.int .i64 9)); refine OwnRow.appendAt (R := ftR) (w.heap.size + 2) rfl (.tmp 57) (.tmp 59) 41 79 (.agg #[.int .i64 0, .int .i64 0, .int .i64 0]) 3 24 rfl (by kernel_rfl) (by kernel_rfl) rfl (by decide) (by decide) (.slice A1 n1 c1) (cfA xs m pre ++ [(⟨x.x.file, x.x.cls.name.pos, 6⟩ : Ft)]) ⟨x.x.file, x.x.cls.name.pos, 9⟩ [.int .i64 x.x.file, .int .i64 x.x.cls.name.pos, .int .i64 9] rfl (by rw [World.size_setCell]; first | rfl | (rw [World.size_setCell]; rfl)) rfl rfl (by simp [Value.oneCell']) HJd.out.row (by have := HJd.out.size; omega) (by first | omega | (simp only [List.length_append, List.length_singleton]; omega)) ?_; intro v2 V2 hO2 hg2 hat2; have J2m := HJd.out.mid hg2; have o2 := (cell_blk J2m.1 0).trans rfl; have fo2 := frozen_blk J2m.1 0; have tT2 := (cell_blk J2m.2.1 0).trans rfl; have eM2 : V2.cell? ⟨Bx, 1, none⟩ = some (.bool x.x.cls.main) := (cell_blk J2m.2.2.1 1).trans rfl; rw [HM.out] at eM2; have q02 := (cell_blk J2m.2.2.2.1 0).trans rfl; have q12 := (cell_blk J2m.2.2.2.1 1).trans rfl; have q22 := (cell_blk J2m.2.2.2.1 2).trans rfl; have fq2 := frozen_blk J2m.2.2.2.1 2; have tM2 := (World.cell?_of_block (a := ⟨tb, 2, none⟩) (J2m.2.2.2.2.block tb htb)).trans g2; have HJ2 := Lib.hid (HJd.out.app hbw (by omega) (by omega) hO2 hg2 hat2); (obtain ⟨A2, c2, e2, -⟩ := hO2.slice_); (obtain ⟨n2, hn2⟩ : ∃ q, q = (cfA xs m pre ++ [(⟨x.x.file, x.x.cls.name.pos, 6⟩ : Ft)] ++ [(⟨x.x.file, x.x.cls.name.pos, 9⟩ : Ft)]).length := ⟨_, rfl⟩); rw [← hn2] at e2; clear hn2 hO2 hg2 hat2 J2m; subst e2))
          have hfin := HJ2.out
          rw [← HF.out] at hfin
          exact hfin.fin HII.out _
    case done =>
      rintro D ys W hD hys hI hK
      obtain ⟨v, h5, hrow⟩ := hI.out
      have hEq : cfA xs m ys = classFs xs m := by unfold cfA classFs; rw [hys]
      have hlen : (classFs xs m).length ≤ 1000000 := by
        have h1 := cfA_le xs m ys
        have h2 : ys.length = xs.length := by have := congrArg List.length hys; rw [List.length_map, sees_len] at this; exact this
        rw [← hEq]; omega
      rw [hEq] at hrow
      have o0 := (cell_blk h5 0).trans rfl
      obtain ⟨A0, cc, rfl, hlc, hC⟩ := OwnRow.reads (R := kFt.K W) (hrow.imp_ (fun x cs hp => by rw [show cs = cFt x from hp]; exact kFt_mk W x))
      obtain ⟨q, hq⟩ : ∃ q, q = (classFs xs m).length := ⟨_, rfl⟩
      rw [← hq] at o0
      have HQ := Lib.hid hq
      have HC := Lib.hid (Sorted_calls (c := cc) hC hlen)
      rw [← hq] at HC
      have HII := Lib.hid hI
      have HKD := Lib.hid hK
      have HD := Lib.hid hD
      clear hI h5 hrow hq hK hD hC hlc hlen
      gi_wp2_with fail
      go_wp2_with fail
      refine HC.out.mono ?_
      rintro e w6 ⟨A', c', rfl, hC', hB'⟩
      have hDl : D < W.heap.size := (Array.getElem?_eq_some_iff.1 HKD.out).1
      have hK6 := (hB'.block D hDl).trans HKD.out
      have HC6 := Lib.hid hC'
      have HB6 := Lib.hid hB'
      obtain ⟨q6, hq6⟩ : ∃ q, q = (setF (classFs xs m)).length := ⟨_, rfl⟩
      rw [← hq6]
      have HQ6 := Lib.hid hq6
      have HK6 := Lib.hid hK6
      clear hq6 hC' hB' hK6 o0
      go_wp2_with fail
      refine ⟨by simp, .inl ⟨_, _, rfl, run_takeDeferred HK6.out, ?_⟩⟩
      have hDD := HD.out
      refine ⟨_, results_tmp Tryz.results12 _ _ _, A', c', ?_, ?_, ?_⟩
      · show Ending.returned (Value.slice A' q6 c') = _
        rw [HQ6.out]
      · exact up_C up_kFt (sub_putObj HK6.out _) HC6.out
      · exact below_putObj (HII.out.bel.trans (HB6.out.mono (by have := HII.out.bel.size; omega))) (by omega) _
    case stop =>
      rintro D c pre W hD hpre hI hK
      exact hI.elim
  · have hm0 : 0 ≤ m := by omega
    clear g0 g1 g3
    go_wp2_with fail
    refine (All_tbl_calls _).mono ?_
    rintro e w1 ⟨rfl, hw1⟩
    have hI1 : FsI w w1 tb (w.heap.size + 1 + 1) xs m [] w1 := by
      rw [hw1]
      refine ⟨?_, ?_, ⟨.slice none 0 0, ?_, ?_⟩, ?_, Nat.le_refl _⟩
      · rw [Below.heap_alloc _ _ _ (by simp; omega), Below.heap_alloc _ _ _ (by simp)]; exact heap_alloc_new w _
      · have := heap_alloc_new ((w.alloc (.cells #[.pointer (some ⟨tb, 0, none⟩)] 25)).alloc (.cells #[.slice none 0 0] 41)) (.cells #[.pointer (some ⟨tb, 0, none⟩)] 25); simpa using this
      · rw [Below.heap_alloc _ _ _ (by simp)]; have := heap_alloc_new (w.alloc (.cells #[.pointer (some ⟨tb, 0, none⟩)] 25)) (.cells #[.slice none 0 0] 41); simpa using this
      · have e : cfA xs m [] = [] := by unfold cfA cf0; rw [if_neg (by omega)]; rfl
        rw [e]; exact OwnRow.none_ _ _ _ _ _
      · exact (((Below.refl _ w).alloc (Nat.le_refl _) _).alloc (by simp) _).alloc (by simp; omega) _
    have HI1 := Lib.hid hI1
    have hs1 : w.heap.size + 1 + 1 < w1.heap.size := by rw [hw1]; simp
    have hTW : ∀ W', Below w.heap.size w1 W' → Tab W' tb xs m := fun W' h => HT.out.later (HI1.out.bel.trans h)
    clear hI1 hw1
    go_wp2_with fail
    refine (wpIn_wide (n := 3)).1 ?_
    refine wpIn_rangeFunc_ownH (F := Fence.wide) (n := 3) (w := w1) (w0 := w1) rfl (by decide) (gf := 30) (lb := #[.pointer (some ⟨(w.heap.size + 1 + 1), 0, none⟩)]) rfl trivial (enters_of Tryz.func30 (by kernel_rfl) rfl)
      (all_stops (n := 2) (by decide) (n₀ := w.heap.size) (by omega) hTW HI1.out.xA) (fun h k => h.trans k) (fun W l o o' hl _ _ _ => ⟨below_putObj (Below.refl _ _) (by omega) _, World.putObj_heap_other (by omega)⟩) (Below.refl _ _) (fun _ => rfl)
      (FsI w w1 tb (w.heap.size + 1 + 1) xs m) (fun _ _ _ => False) (fsi_own (by omega)) (fun _ _ _ _ _ hs _ _ => hs) HI1.out
      (fun x a' W => ∃ Bx, w1.heap.size ≤ Bx ∧ W.heap[Bx]? = some (.cells (eCells x.x x.A6 x.c6 x.A7 x.c7 x.A10 x.c10) 38 (0, 0)) ∧ a' = { tmps := #[.pointer (some ⟨tb, 0, none⟩), .pointer (some ⟨w.heap.size, 0, none⟩), .slice none 0 0, .pointer (some ⟨w.heap.size + 1, 0, none⟩), .int .i64 x.j, .pointer (some ⟨Bx, 0, none⟩), undef, .pointer (some ⟨tb, 0, none⟩), .bool false, .pointer (some ⟨tb, 0, none⟩), .pointer (some ⟨tb, 0, none⟩), .pointer (some ⟨tb, 2, none⟩), .int .i64 m, .bool false, undef, undef, undef, undef, .pointer (some ⟨tb, 0, none⟩), .func (.func 30) #[] #[.pointer (some ⟨(w.heap.size + 1 + 1), 0, none⟩)], .int .i64 x.j, .agg (eCells x.x x.A6 x.c6 x.A7 x.c7 x.A10 x.c10), undef, undef, undef, undef, undef, undef, undef, undef, undef, undef, undef, undef, undef, undef, undef, undef, undef, undef, undef, undef, undef, undef, undef, undef, undef, undef, undef, undef, undef, undef, undef, undef, undef, undef, undef, undef, undef, undef, undef, undef, undef], defers := [] })
      ?hax ?assign ?body ?done ?stop
    case hax =>
      intro x a'
      rintro _ W W' row ⟨Bx, h1, h2, h3⟩ hg hr
      exact ⟨Bx, h1, cells_kept hg hr h2, h3⟩
    case assign =>
      rintro l pre x W K hi hK
      gi_wp2
      exact hK _ _ ((KeepsOthers.alloc _ _).from _) ⟨(Below.refl _ W).alloc (by have := hi.size; omega) _, Below.heap_alloc _ _ _ (Array.getElem?_eq_some_iff.1 hi.xA).1⟩ ((fsi_own (by omega)).alloc _ hi) ⟨W.heap.size, hi.size, World.alloc_heap_new _ _, rfl⟩
    case body =>
      rintro l pre x a' W hl ⟨r, hr⟩ hI ⟨Bx, hBx, hX, rfl⟩ hlt
      have hsz := hI.size
      have hbw : w.heap.size + 1 < W.heap.size := by omega
      have hbtW : (w.heap.size + 1 + 1) < W.heap.size := by omega
      have hBl : Bx < W.heap.size := (Array.getElem?_eq_some_iff.1 hX).1
      have x0 := (cell_blk hX 0).trans rfl
      have x3 := (cell_blk hX 3).trans rfl
      obtain ⟨⟨A9, c9, mb9, N9, D9, -, t1, -, -, t4, t5⟩, -⟩ := HT.out.later hI.bel
      have HII := Lib.hid hI
      have HXX := Lib.hid hX
      have hle := cfA_le xs m pre
      have hnm := x.hs.1
      obtain ⟨w3, hw3⟩ : ∃ w3, w3 = W.alloc (.cells #[.int .i64 x.x.file, .int .i64 x.x.cls.name.pos, .int .i64 0] 79) := ⟨_, rfl⟩
      have hB3 : Below W.heap.size W w3 := by rw [hw3]; exact (Below.refl _ _).alloc (Nat.le_refl _) _
      have yT := (cell_blk ((hB3.block _ (by omega)).trans hI.xT) 0).trans rfl
      have yM := cell_later hB3 t1
      have yN := (cell_blk ((hB3.block _ hBl).trans hX) 2).trans rfl
      obtain ⟨d0, hdd⟩ : ∃ d0, d0 = fnd0 xs x.x.cls.name.text := ⟨_, rfl⟩
      have hlk := fun nq => look_runFN (w := w3) (by rw [hw3]; exact t4.alloc _) t5 hnm nq
      rw [← hdd] at hlk
      clear hI hX t1 t4 t5 hr hB3
      have HDD := Lib.hid hdd
      gi_wp2
      rw [← hw3]
      have HW3 := Lib.hid hw3
      clear hw3 hdd
      refine region_quiet_round (by kernel_rfl) (by kernel_rfl) (by kernel_rfl) ?_
      repeat (gi_big_quiet_step (fail))
      refine wpQuietIn_nil ?_
      intro _ hw'
      obtain ⟨nq, hw''⟩ := hw'
      subst hw''
      obtain ⟨v, hv, hJ⟩ := FsJ.start HII.out HXX.out #[.int .i64 x.x.file, .int .i64 x.x.cls.name.pos, .int .i64 0] nq
      rw [← HW3.out] at hJ
      obtain ⟨V, hV⟩ : ∃ V, V = w3.drewN nq := ⟨_, rfl⟩
      rw [← hV] at hJ ⊢
      have o0 := (cell_blk hJ.out 0).trans rfl
      have fo := frozen_blk hJ.out 0
      have tT := (cell_blk hJ.xT 0).trans rfl
      have eM : V.cell? ⟨Bx, 1, none⟩ = some (.bool x.x.cls.main) := (cell_blk hJ.ent 1).trans rfl
      have q0 := (cell_blk hJ.flt 0).trans rfl
      have q1 := (cell_blk hJ.flt 1).trans rfl
      have q2 := (cell_blk hJ.flt 2).trans rfl
      have fq := frozen_blk hJ.flt 2
      have tM := (World.cell?_of_block (a := ⟨tb, 2, none⟩) (hJ.bel.block tb htb)).trans g2
      have HJ := Lib.hid hJ
      obtain ⟨Av, cv, ev, -⟩ := hJ.row.slice_
      obtain ⟨nv, hnv⟩ : ∃ q, q = (cfA xs m pre).length := ⟨_, rfl⟩
      rw [← hnv] at ev
      clear hnv
      clear hV hJ hv x0 x3 yT yM yN hlk
      subst ev
      have hmm : x.x.cls.main = false ∨ (x.x.cls.main = true ∧ m = x.j) ∨ (x.x.cls.main = true ∧ m ≠ x.j) := by cases x.x.cls.main <;> simp; omega
      by_cases hd : d0 = x.j
      · skip
        have hd1 : (d0 != x.j) = false := by simpa using hd
        have HD1 := Lib.hid hd
        clear hd
        rcases hmm with hmm | ⟨hmm, hmj⟩ | ⟨hmm, hmj⟩
        · have HM := Lib.hid hmm
          clear hmm
          rw [HM.out] at eM
          have HF := Lib.hid (show cfA xs m (pre ++ [x]) = cfA xs m pre by rw [cfA_snoc]; unfold cfOf AE.key; simp only; rw [← HDD.out, if_pos HD1.out, if_neg (fun h => by have := HM.out; rw [this] at h; cases h.1)]; simp)
          gi_wp2
          have hfin := HJ.out
          rw [← HF.out] at hfin
          exact hfin.fin HII.out _
        · have HM := Lib.hid hmm
          have HMJ := Lib.hid hmj
          have hmj1 : (m != x.j) = false := by simpa using hmj
          clear hmm hmj
          rw [HM.out] at eM
          have HF := Lib.hid (show cfA xs m (pre ++ [x]) = cfA xs m pre by rw [cfA_snoc]; unfold cfOf AE.key; simp only; rw [← HDD.out, if_pos HD1.out, if_neg (fun h => h.2 HMJ.out)]; simp)
          gi_wp2
          have hfin := HJ.out
          rw [← HF.out] at hfin
          exact hfin.fin HII.out _
        · have HM := Lib.hid hmm
          have HMJ := Lib.hid hmj
          have hmj1 : (m != x.j) = true := by simpa using hmj
          clear hmm hmj
          rw [HM.out] at eM
          have HF := Lib.hid (show cfA xs m (pre ++ [x]) = cfA xs m pre ++ [⟨x.x.file, x.x.cls.name.pos, 9⟩] by rw [cfA_snoc]; unfold cfOf AE.key; simp only; rw [← HDD.out, if_pos HD1.out, if_pos ⟨HM.out, HMJ.out⟩]; simp)
          have HJd := Lib.hid (HJ.out.code hbw hbtW hBl (.int .i64 9))
          gi_wp2_with (gi_at_builtin; refine OwnRow.appendAt (R := ftR) (w.heap.size + 2) rfl (.tmp 57) (.tmp 59) 41 79 (.agg #[.int .i64 0, .int .i64 0, .int .i64 0]) 3 24 rfl (by kernel_rfl) (by kernel_rfl) rfl (by decide) (by decide) (.slice Av nv cv) (cfA xs m pre) ⟨x.x.file, x.x.cls.name.pos, 9⟩ [.int .i64 x.x.file, .int .i64 x.x.cls.name.pos, .int .i64 9] rfl (by rw [World.size_setCell]; first | rfl | (rw [World.size_setCell]; rfl)) rfl rfl (by simp [Value.oneCell']) HJd.out.row (by have := HJd.out.size; omega) (by first | omega | (simp only [List.length_append, List.length_singleton]; omega)) ?_; intro v2 V2 hO2 hg2 hat2; have J2m := HJd.out.mid hg2; have o2 := (cell_blk J2m.1 0).trans rfl; have fo2 := frozen_blk J2m.1 0; have tT2 := (cell_blk J2m.2.1 0).trans rfl; have eM2 : V2.cell? ⟨Bx, 1, none⟩ = some (.bool x.x.cls.main) := (cell_blk J2m.2.2.1 1).trans rfl; rw [HM.out] at eM2; have q02 := (cell_blk J2m.2.2.2.1 0).trans rfl; have q12 := (cell_blk J2m.2.2.2.1 1).trans rfl; have q22 := (cell_blk J2m.2.2.2.1 2).trans rfl; have fq2 := frozen_blk J2m.2.2.2.1 2; have tM2 := (World.cell?_of_block (a := ⟨tb, 2, none⟩) (J2m.2.2.2.2.block tb htb)).trans g2; have HJ2 := Lib.hid (HJd.out.app hbw (by omega) (by omega) hO2 hg2 hat2); (obtain ⟨A2, c2, e2, -⟩ := hO2.slice_); (obtain ⟨n2, hn2⟩ : ∃ q, q = (cfA xs m pre ++ [(⟨x.x.file, x.x.cls.name.pos, 9⟩ : Ft)]).length := ⟨_, rfl⟩); rw [← hn2] at e2; clear hn2 hO2 hg2 hat2 J2m; subst e2)
          have hfin := HJ2.out
          rw [← HF.out] at hfin
          exact hfin.fin HII.out _
      · skip
        have hd1 : (d0 != x.j) = true := by simpa using hd
        have HD1 := Lib.hid hd
        clear hd
        rcases hmm with hmm | ⟨hmm, hmj⟩ | ⟨hmm, hmj⟩
        · have HM := Lib.hid hmm
          clear hmm
          rw [HM.out] at eM
          have HF := Lib.hid (show cfA xs m (pre ++ [x]) = cfA xs m pre ++ [⟨x.x.file, x.x.cls.name.pos, 6⟩] by rw [cfA_snoc]; unfold cfOf AE.key; simp only; rw [← HDD.out, if_neg HD1.out, if_neg (fun h => by have := HM.out; rw [this] at h; cases h.1)]; simp)
          have HJc := Lib.hid (HJ.out.code hbw hbtW hBl (.int .i64 6))
          gi_wp2_with (gi_at_builtin; refine OwnRow.appendAt (R := ftR) (w.heap.size + 2) rfl (.tmp 41) (.tmp 43) 41 79 (.agg #[.int .i64 0, .int .i64 0, .int .i64 0]) 3 24 rfl (by kernel_rfl) (by kernel_rfl) rfl (by decide) (by decide) (.slice Av nv cv) (cfA xs m pre) ⟨x.x.file, x.x.cls.name.pos, 6⟩ [.int .i64 x.x.file, .int .i64 x.x.cls.name.pos, .int .i64 6] rfl (by rw [World.size_setCell]; first | rfl | (rw [World.size_setCell]; rfl)) rfl rfl (by simp [Value.oneCell']) HJc.out.row (by have := HJc.out.size; omega) (by first | omega | (simp only [List.length_append, List.length_singleton]; omega)) ?_; intro v1 V1 hO1 hg1 hat1; have J1m := HJc.out.mid hg1; have o1 := (cell_blk J1m.1 0).trans rfl; have fo1 := frozen_blk J1m.1 0; have tT1 := (cell_blk J1m.2.1 0).trans rfl; have eM1 : V1.cell? ⟨Bx, 1, none⟩ = some (.bool x.x.cls.main) := (cell_blk J1m.2.2.1 1).trans rfl; rw [HM.out] at eM1; have q01 := (cell_blk J1m.2.2.2.1 0).trans rfl; have q11 := (cell_blk J1m.2.2.2.1 1).trans rfl; have q21 := (cell_blk J1m.2.2.2.1 2).trans rfl; have fq1 := frozen_blk J1m.2.2.2.1 2; have tM1 := (World.cell?_of_block (a := ⟨tb, 2, none⟩) (J1m.2.2.2.2.block tb htb)).trans g2; have HJ1 := Lib.hid (HJc.out.app hbw (by omega) (by omega) hO1 hg1 hat1); (obtain ⟨A1, c1, e1, -⟩ := hO1.slice_); (obtain ⟨n1, hn1⟩ : ∃ q, q = (cfA xs m pre ++ [(⟨x.x.file, x.x.cls.name.pos, 6⟩ : Ft)]).length := ⟨_, rfl⟩); rw [← hn1] at e1; clear hn1 hO1 hg1 hat1 J1m; subst e1)
          have hfin := HJ1.out
          rw [← HF.out] at hfin
          exact hfin.fin HII.out _
        · have HM := Lib.hid hmm
          have HMJ := Lib.hid hmj
          have hmj1 : (m != x.j) = false := by simpa using hmj
          clear hmm hmj
          rw [HM.out] at eM
          have HF := Lib.hid (show cfA xs m (pre ++ [x]) = cfA xs m pre ++ [⟨x.x.file, x.x.cls.name.pos, 6⟩] by rw [cfA_snoc]; unfold cfOf AE.key; simp only; rw [← HDD.out, if_neg HD1.out, if_neg (fun h => h.2 HMJ.out)]; simp)
          have HJc := Lib.hid (HJ.out.code hbw hbtW hBl (.int .i64 6))
          gi_wp2_with (gi_at_builtin; refine OwnRow.appendAt (R := ftR) (w.heap.size + 2) rfl (.tmp 41) (.tmp 43) 41 79 (.agg #[.int .i64 0, .int .i64 0, .int .i64 0]) 3 24 rfl (by kernel_rfl) (by kernel_rfl) rfl (by decide) (by decide) (.slice Av nv cv) (cfA xs m pre) ⟨x.x.file, x.x.cls.name.pos, 6⟩ [.int .i64 x.x.file, .int .i64 x.x.cls.name.pos, .int .i64 6] rfl (by rw [World.size_setCell]; first | rfl | (rw [World.size_setCell]; rfl)) rfl rfl (by simp [Value.oneCell']) HJc.out.row (by have := HJc.out.size; omega) (by first | omega | (simp only [List.length_append, List.length_singleton]; omega)) ?_; intro v1 V1 hO1 hg1 hat1; have J1m := HJc.out.mid hg1; have o1 := (cell_blk J1m.1 0).trans rfl; have fo1 := frozen_blk J1m.1 0; have tT1 := (cell_blk J1m.2.1 0).trans rfl; have eM1 : V1.cell? ⟨Bx, 1, none⟩ = some (.bool x.x.cls.main) := (cell_blk J1m.2.2.1 1).trans rfl; rw [HM.out] at eM1; have q01 := (cell_blk J1m.2.2.2.1 0).trans rfl; have q11 := (cell_blk J1m.2.2.2.1 1).trans rfl; have q21 := (cell_blk J1m.2.2.2.1 2).trans rfl; have fq1 := frozen_blk J1m.2.2.2.1 2; have tM1 := (World.cell?_of_block (a := ⟨tb, 2, none⟩) (J1m.2.2.2.2.block tb htb)).trans g2; have HJ1 := Lib.hid (HJc.out.app hbw (by omega) (by omega) hO1 hg1 hat1); (obtain ⟨A1, c1, e1, -⟩ := hO1.slice_); (obtain ⟨n1, hn1⟩ : ∃ q, q = (cfA xs m pre ++ [(⟨x.x.file, x.x.cls.name.pos, 6⟩ : Ft)]).length := ⟨_, rfl⟩); rw [← hn1] at e1; clear hn1 hO1 hg1 hat1 J1m; subst e1)
          have hfin := HJ1.out
          rw [← HF.out] at hfin
          exact hfin.fin HII.out _
        · have HM := Lib.hid hmm
          have HMJ := Lib.hid hmj
          have hmj1 : (m != x.j) = true := by simpa using hmj
          clear hmm hmj
          rw [HM.out] at eM
          have HF := Lib.hid (show cfA xs m (pre ++ [x]) = cfA xs m pre ++ [⟨x.x.file, x.x.cls.name.pos, 6⟩] ++ [⟨x.x.file, x.x.cls.name.pos, 9⟩] by rw [cfA_snoc]; unfold cfOf AE.key; simp only; rw [← HDD.out, if_neg HD1.out, if_pos ⟨HM.out, HMJ.out⟩]; simp)
          have HJc := Lib.hid (HJ.out.code hbw hbtW hBl (.int .i64 6))
          gi_wp2_with (first | (gi_at_builtin; refine OwnRow.appendAt (R := ftR) (w.heap.size + 2) rfl (.tmp 41) (.tmp 43) 41 79 (.agg #[.int .i64 0, .int .i64 0, .int .i64 0]) 3 24 rfl (by kernel_rfl) (by kernel_rfl) rfl (by decide) (by decide) (.slice Av nv cv) (cfA xs m pre) ⟨x.x.file, x.x.cls.name.pos, 6⟩ [.int .i64 x.x.file, .int .i64 x.x.cls.name.pos, .int .i64 6] rfl (by rw [World.size_setCell]; first | rfl | (rw [World.size_setCell]; rfl)) rfl rfl (by simp [Value.oneCell']) HJc.out.row (by have := HJc.out.size; omega) (by first | omega | (simp only [List.length_append, List.length_singleton]; omega)) ?_; intro v1 V1 hO1 hg1 hat1; have J1m := HJc.out.mid hg1; have o1 := (cell_blk J1m.1 0).trans rfl; have fo1 := frozen_blk J1m.1 0; have tT1 := (cell_blk J1m.2.1 0).trans rfl; have eM1 : V1.cell? ⟨Bx, 1, none⟩ = some (.bool x.x.cls.main) := (cell_blk J1m.2.2.1 1).trans rfl; rw [HM.out] at eM1; have q01 := (cell_blk J1m.2.2.2.1 0).trans rfl; have q11 := (cell_blk J1m.2.2.2.1 1).trans rfl; have q21 := (cell_blk J1m.2.2.2.1 2).trans rfl; have fq1 := frozen_blk J1m.2.2.2.1 2; have tM1 := (World.cell?_of_block (a := ⟨tb, 2, none⟩) (J1m.2.2.2.2.block tb htb)).trans g2; have HJ1 := Lib.hid (HJc.out.app hbw (by omega) (by omega) hO1 hg1 hat1); (obtain ⟨A1, c1, e1, -⟩ := hO1.slice_); (obtain ⟨n1, hn1⟩ : ∃ q, q = (cfA xs m pre ++ [(⟨x.x.file, x.x.cls.name.pos, 6⟩ : Ft)]).length := ⟨_, rfl⟩); rw [← hn1] at e1; clear hn1 hO1 hg1 hat1 J1m; subst e1) | (gi_at_builtin; have HJd := Lib.hid (HJ1.out.code hbw hbtW hBl (.int .i64 9)); refine OwnRow.appendAt (R := ftR) (w.heap.size + 2) rfl (.tmp 57) (.tmp 59) 41 79 (.agg #[.int .i64 0, .int .i64 0, .int .i64 0]) 3 24 rfl (by kernel_rfl) (by kernel_rfl) rfl (by decide) (by decide) (.slice A1 n1 c1) (cfA xs m pre ++ [(⟨x.x.file, x.x.cls.name.pos, 6⟩ : Ft)]) ⟨x.x.file, x.x.cls.name.pos, 9⟩ [.int .i64 x.x.file, .int .i64 x.x.cls.name.pos, .int .i64 9] rfl (by rw [World.size_setCell]; first | rfl | (rw [World.size_setCell]; rfl)) rfl rfl (by simp [Value.oneCell']) HJd.out.row (by have := HJd.out.size; omega) (by first | omega | (simp only [List.length_append, List.length_singleton]; omega)) ?_; intro v2 V2 hO2 hg2 hat2; have J2m := HJd.out.mid hg2; have o2 := (cell_blk J2m.1 0).trans rfl; have fo2 := frozen_blk J2m.1 0; have tT2 := (cell_blk J2m.2.1 0).trans rfl; have eM2 : V2.cell? ⟨Bx, 1, none⟩ = some (.bool x.x.cls.main) := (cell_blk J2m.2.2.1 1).trans rfl; rw [HM.out] at eM2; have q02 := (cell_blk J2m.2.2.2.1 0).trans rfl; have q12 := (cell_blk J2m.2.2.2.1 1).trans rfl; have q22 := (cell_blk J2m.2.2.2.1 2).trans rfl; have fq2 := frozen_blk J2m.2.2.2.1 2; have tM2 := (World.cell?_of_block (a := ⟨tb, 2, none⟩) (J2m.2.2.2.2.block tb htb)).trans g2; have HJ2 := Lib.hid (HJd.out.app hbw (by omega) (by omega) hO2 hg2 hat2); (obtain ⟨A2, c2, e2, -⟩ := hO2.slice_); (obtain ⟨n2, hn2⟩ : ∃ q, q = (cfA xs m pre ++ [(⟨x.x.file, x.x.cls.name.pos, 6⟩ : Ft)] ++ [(⟨x.x.file, x.x.cls.name.pos, 9⟩ : Ft)]).length := ⟨_, rfl⟩); rw [← hn2] at e2; clear hn2 hO2 hg2 hat2 J2m; subst e2))
          have hfin := HJ2.out
          rw [← HF.out] at hfin
          exact hfin.fin HII.out _
    case done =>
      rintro D ys W hD hys hI hK
      obtain ⟨v, h5, hrow⟩ := hI.out
      have hEq : cfA xs m ys = classFs xs m := by unfold cfA classFs; rw [hys]
      have hlen : (classFs xs m).length ≤ 1000000 := by
        have h1 := cfA_le xs m ys
        have h2 : ys.length = xs.length := by have := congrArg List.length hys; rw [List.length_map, sees_len] at this; exact this
        rw [← hEq]; omega
      rw [hEq] at hrow
      have o0 := (cell_blk h5 0).trans rfl
      obtain ⟨A0, cc, rfl, hlc, hC⟩ := OwnRow.reads (R := kFt.K W) (hrow.imp_ (fun x cs hp => by rw [show cs = cFt x from hp]; exact kFt_mk W x))
      obtain ⟨q, hq⟩ : ∃ q, q = (classFs xs m).length := ⟨_, rfl⟩
      rw [← hq] at o0
      have HQ := Lib.hid hq
      have HC := Lib.hid (Sorted_calls (c := cc) hC hlen)
      rw [← hq] at HC
      have HII := Lib.hid hI
      have HKD := Lib.hid hK
      have HD := Lib.hid hD
      clear hI h5 hrow hq hK hD hC hlc hlen
      gi_wp2_with fail
      go_wp2_with fail
      refine HC.out.mono ?_
      rintro e w6 ⟨A', c', rfl, hC', hB'⟩
      have hDl : D < W.heap.size := (Array.getElem?_eq_some_iff.1 HKD.out).1
      have hK6 := (hB'.block D hDl).trans HKD.out
      have HC6 := Lib.hid hC'
      have HB6 := Lib.hid hB'
      obtain ⟨q6, hq6⟩ : ∃ q, q = (setF (classFs xs m)).length := ⟨_, rfl⟩
      rw [← hq6]
      have HQ6 := Lib.hid hq6
      have HK6 := Lib.hid hK6
      clear hq6 hC' hB' hK6 o0
      go_wp2_with fail
      refine ⟨by simp, .inl ⟨_, _, rfl, run_takeDeferred HK6.out, ?_⟩⟩
      have hDD := HD.out
      refine ⟨_, results_tmp Tryz.results12 _ _ _, A', c', ?_, ?_, ?_⟩
      · show Ending.returned (Value.slice A' q6 c') = _
        rw [HQ6.out]
      · exact up_C up_kFt (sub_putObj HK6.out _) HC6.out
      · exact below_putObj (HII.out.bel.trans (HB6.out.mono (by have := HII.out.bel.size; omega))) (by omega) _
    case stop =>
      rintro D c pre W hD hpre hI hK
      exact hI.elim
end Go.Proofs.YtbfkkepdeepdeaaGreatDoor
end
section
namespace Go.Proofs.YtbfkkepdeepdeaaGreatDoor
open Go Go.RowKit Go.Maps Go.Proofs.YtbfkkepdeepdeaaGreatDoorW.PrintWords Go.Proofs.YtbfkkepdeepdeaaGreatDoorW.PrintLast Go.Proofs.YtbfkkepdeepdeaaGreatDoorW.PrintMore
set_option linter.unusedVariables false
set_option linter.unusedSimpArgs false
set_option maxRecDepth 100000
abbrev txt14 : ByteArray := ⟨#[99, 108, 97, 115, 115, 32, 65, 32, 123, 32, 125]⟩
def fl14 : List Fl := [⟨⟨#[97]⟩, txt14⟩, ⟨⟨#[98]⟩, txt14⟩]
def nd14 : Nd := ⟨4, noB, noB, 0, [⟨1, noB, wClass, 0, []⟩, ⟨1, ⟨#[32]⟩, ⟨#[65]⟩, 6, []⟩, ⟨1, ⟨#[32]⟩, wLC, 8, []⟩, ⟨1, ⟨#[32]⟩, wRC, 10, []⟩]⟩
def cl14 : Cl := ⟨false, ⟨⟨#[65]⟩, 6⟩, zNm, [], [], zNm, []⟩
theorem pds14 : allPd fl14 = .inl [⟨mk 2 [nd14], noB⟩, ⟨mk 2 [nd14], noB⟩] := by kernel_rfl
theorem views14 : allViews fl14 = .inl [[cl14], [cl14]] := by
  unfold allViews
  rw [pds14]
  kernel_rfl
theorem viewsOk14 : ViewsOk fl14 := fun ps h x hx => by
  rw [pds14] at h
  injection h with h
  subst h
  have hx2 : x = ⟨mk 2 [nd14], noB⟩ := by rcases List.mem_cons.1 hx with e | e; exact e; exact List.mem_singleton.1 e
  subst hx2
  refine ⟨by decide, fun k hk => ?_⟩
  rw [List.mem_singleton.1 hk]
  exact class_plain _ (by kernel_rfl)
structure TabRes (w : World) (r : List (List Cl) ⊕ Fail3) (e : Ending) (w' : World) : Prop where
  keep : Below w.heap.size w w'
  val : (∃ vs tb, r = .inl vs ∧ e = .returned (.tuple #[.pointer (some ⟨tb, 0, none⟩), .agg #[.int .i64 0, .int .i64 0], .nilIface]) ∧ Tab w' tb (ents vs) (mainOf (ents vs))) ∨
    (∃ f p k, r = .inr (f, p, k) ∧ e = .returned (.tuple #[.pointer none, .agg #[.int .i64 f, .int .i64 p], .iface 77 (.int .i64 k)]))
def TabOk (l : List Fl) : Prop := ∀ vs, allViews l = .inl vs → (∀ e ∈ ents vs, e.cls.name.text.size ≤ maxLen ∧ e.cls.super.text.size ≤ maxLen) ∧ (ents vs).length ≤ 100000
theorem set_same {W : World} {b j : Nat} {cs : Array Value} {T : TypeId} {v : Value} (h : W.heap[b]? = some (.cells cs T (0, 0))) (hj : cs[j]? = some v) : W.setCell ⟨b, j, none⟩ v = W := by
  have hh : (W.setCell ⟨b, j, none⟩ v).heap = W.heap := by
    apply Array.ext_getElem?
    intro k
    by_cases e : k = b
    · subst e
      rw [heap_setCell_same h, h]
      have : cs.setIfInBounds j v = cs := by
        apply Array.ext_getElem?
        intro q
        rw [Array.getElem?_setIfInBounds]
        split
        · rename_i e; subst e; split
          · exact hj.symm
          · rename_i hn; rw [Array.getElem?_eq_none (by omega)]
        · rfl
      rw [this]
    · exact Below.heap_setCell _ _ _ _ e
  show { W with heap := (W.setCell ⟨b, j, none⟩ v).heap } = W
  rw [hh]
set_option maxHeartbeats 1000000 in
theorem TabOf_calls {w : World} {A : Option Addr} {n c : Nat} {l : List Fl} (h : kFl.C w A n l) (E : Env w) (hV : ViewsOk l) (hT : TabOk l) : Calls Tryz.prog 14 #[.slice A n c] w (TabRes w (allViews l)) := by
  obtain ⟨w1, hw1⟩ : ∃ w1, w1 = w.alloc (.cells #[.int .i64 0, .int .i64 0] 46) := ⟨_, rfl⟩
  have hA1 : Below w.heap.size w w1 := by rw [hw1]; exact (Below.refl _ _).alloc (Nat.le_refl _) _
  have hz1 : w1.heap.size = w.heap.size + 1 := by rw [hw1]; simp
  have HY := Lib.hid (show w1.heap[w.heap.size]? = some (.cells #[.int .i64 0, .int .i64 0] 46 (0, 0)) by rw [hw1]; exact World.alloc_heap_new w _)
  have HC := Lib.hid (All_views (c := c) (Kd.C_below h hA1) (E.below hA1) hV)
  rw [hw1] at HC
  have HA := Lib.hid hA1
  have HTT := Lib.hid hT
  clear hA1 E h hV hT
  go_enter Tryz.func14, Tryz.ntmps14
  go_wp2_with fail
  refine HC.out.mono ?_
  rintro e w2 ⟨k2, h2⟩
  rw [← hw1] at k2
  have HY2 := Lib.hid ((k2.block w.heap.size (by omega)).trans HY.out)
  have HA2 := Lib.hid (below_step HA.out k2)
  have hz2 : w.heap.size < w2.heap.size := by have := k2.size; omega
  have y0 := (cell_blk HY2.out 0).trans rfl
  have y1 := (cell_blk HY2.out 1).trans rfl
  have f0 := frozen_blk HY2.out 0
  have f1 := frozen_blk HY2.out 1
  obtain ⟨f, p, hfp⟩ : ∃ f p, (∃ vs, allViews l = .inl vs ∧ f = 0 ∧ p = 0) ∨ (∃ k, allViews l = .inr (f, p, k)) := by
    rcases h2 with ⟨vs, A2, c2, hr, -⟩ | ⟨f, p, k, hr, -⟩
    · exact ⟨0, 0, .inl ⟨vs, hr, rfl, rfl⟩⟩
    · exact ⟨f, p, .inr ⟨k, hr⟩⟩
  have HFP := Lib.hid hfp
  obtain ⟨w3, hw3⟩ : ∃ w3, w3 = w2.alloc (.cells #[.int .i64 f, .int .i64 p] 46) := ⟨_, rfl⟩
  have hB3 : Below w2.heap.size w2 w3 := by rw [hw3]; exact (Below.refl _ _).alloc (Nat.le_refl _) _
  have HN3 := Lib.hid (show w3.heap[w2.heap.size]? = some (.cells #[.int .i64 f, .int .i64 p] 46 (0, 0)) by rw [hw3]; exact World.alloc_heap_new w2 _)
  have HY3 := Lib.hid ((hB3.block w.heap.size hz2).trans HY2.out)
  have HA3 := Lib.hid (below_step HA2.out hB3)
  have hz3 : w3.heap.size = w2.heap.size + 1 := by rw [hw3]; simp
  clear y0 y1 f0 f1 hfp
  rcases h2 with ⟨vs, A2, c2, hr, rfl, hl, hC⟩ | ⟨f2, p2, k, hr, rfl⟩
  · obtain ⟨rfl, rfl⟩ : f = 0 ∧ p = 0 := by
      rcases HFP.out with ⟨_, _, h1, h2⟩ | ⟨k, h⟩
      · exact ⟨h1, h2⟩
      · rw [hr] at h; cases h
    obtain ⟨hnm, hsh⟩ := HTT.out vs hr
    have HR := Lib.hid hr
    have HN := Lib.hid (TNew_calls (c := c2) (Kd.C_below hC hB3) hnm (by omega))
    rw [hw3] at HN
    clear hr hC k2 HC hB3 hnm hsh
    go_wp2_with fail
    refine HN.out.mono ?_
    rintro e w4 ⟨tb, rfl, hT, hB4⟩
    rw [← hw3] at hB4
    have HT4 := Lib.hid hT
    have HY4 := Lib.hid ((hB4.block w.heap.size (by omega)).trans HY3.out)
    have HA4 := Lib.hid (below_step HA3.out hB4)
    have f0 := frozen_blk HY4.out 0
    have f1 := frozen_blk HY4.out 1
    have y0 := (cell_blk HY4.out 0).trans rfl
    have y1 := (cell_blk HY4.out 1).trans rfl
    clear hT hB4
    go_wp2_with fail
    rw [set_same HY4.out rfl, set_same HY4.out rfl]
    exact bodyPost_ret (res3c Tryz.results14 rfl HY4.out) rfl ⟨HA4.out, .inl ⟨vs, tb, HR.out, rfl, HT4.out⟩⟩
  · obtain ⟨rfl, rfl⟩ : f = f2 ∧ p = p2 := by
      rcases HFP.out with ⟨_, h, _⟩ | ⟨k, h⟩
      · rw [hr] at h; cases h
      · rw [hr] at h; injection h with h; injection h with h1 h; injection h with h2 _; exact ⟨h1.symm, h2.symm⟩
    have HR := Lib.hid hr
    clear hr k2 HC hB3
    go_wp2_with fail
    rw [← hw3]
    have n0 := (cell_blk HN3.out 0).trans rfl
    have n1 := (cell_blk HN3.out 1).trans rfl
    have f0 := frozen_blk HY3.out 0
    have f1 := frozen_blk HY3.out 1
    have y0 := (cell_blk HY3.out 0).trans rfl
    have y1 := (cell_blk HY3.out 1).trans rfl
    clear hw3
    go_region
    go_wp2
    exact bodyPost_ret (res3c Tryz.results14 rfl (set2 HY3.out (.int .i64 f) (.int .i64 p))) rfl ⟨below_step (keep2b HA3.out (Nat.le_refl _) _ _) (below_drew1 _), .inr ⟨f, p, k, HR.out, rfl⟩⟩
def es14 : List En := ents [[cl14], [cl14]]
theorem tabOk14 : TabOk fl14 := fun vs h => by
  rw [views14] at h
  injection h with h
  subst h
  refine ⟨fun e he => ?_, by decide⟩
  have : e.cls = cl14 := by
    rcases List.mem_cons.1 (show e ∈ [(⟨0, cl14⟩ : En), ⟨1, cl14⟩] from he) with h | h
    · rw [h]
    · rw [List.mem_singleton.1 h]
  rw [this]
  exact ⟨by decide, by decide⟩
theorem faults14 : setF (classFs es14 (mainOf es14)) = [⟨0, 0, 9⟩, ⟨1, 6, 6⟩] := by kernel_rfl
theorem fl14_C {W : World} {b : Nat} (h : W.heap[b]? = some (.cells #[.string ⟨#[97]⟩, .string txt14, .string ⟨#[98]⟩, .string txt14] 85 (0, 0))) : kFl.C W (some ⟨b, 0, none⟩) 2 fl14 :=
  C_blk (d := kFl) (xs := fl14) h (((Reps.none _ 2).snoc (kFl_mk W ⟨⟨#[97]⟩, txt14⟩) rfl).snoc (kFl_mk W ⟨⟨#[98]⟩, txt14⟩) rfl) (by decide)
theorem alive14_calls {w : World} (E : Env w) : Calls Tryz.prog 7 #[] w fun e w' => e = .returned (.bool true) ∧ Below w.heap.size w w' := by
  obtain ⟨w1, hw1⟩ : ∃ w1, w1 = w.alloc (.cells #[.string ⟨#[97]⟩, .string txt14, .string ⟨#[98]⟩, .string txt14] 85) := ⟨_, rfl⟩
  have hA : Below w.heap.size w w1 := by rw [hw1]; exact (Below.refl _ _).alloc (Nat.le_refl _) _
  have HO := Lib.hid (TabOf_calls (c := 2) (fl14_C (W := w1) (b := w.heap.size) (by rw [hw1]; exact World.alloc_heap_new w _)) (E.below hA) viewsOk14 tabOk14)
  rw [views14, hw1] at HO
  have HA := Lib.hid hA
  clear hA E
  go_enter Tryz.func7, Tryz.ntmps7
  go_wp2_with fail
  refine HO.out.mono ?_
  rintro e w2 ⟨k2, hval⟩
  obtain ⟨tb, rfl, hT⟩ : ∃ tb, e = .returned (.tuple #[.pointer (some ⟨tb, 0, none⟩), .agg #[.int .i64 0, .int .i64 0], .nilIface]) ∧ Tab w2 tb es14 (mainOf es14) := by
    rcases hval with ⟨vs, tb, hv, he, hT⟩ | ⟨f, p, k, hv, -⟩
    · injection hv with hv
      subst hv
      exact ⟨tb, he, hT⟩
    · cases hv
  clear hval
  have HT := Lib.hid (show Tab w2 tb es14 (mainOf es14) from hT)
  rw [← hw1] at k2
  have HA2 := Lib.hid (below_step HA.out k2)
  obtain ⟨w3, hw3⟩ : ∃ w3, w3 = w2.alloc (.cells #[.int .i64 0, .int .i64 0] 46) := ⟨_, rfl⟩
  have hB3 : Below w2.heap.size w2 w3 := by rw [hw3]; exact (Below.refl _ _).alloc (Nat.le_refl _) _
  have HT3 := Lib.hid (HT.out.later hB3)
  have HA3 := Lib.hid (below_step HA2.out hB3)
  clear hT k2 hB3 HO
  go_wp2_with fail
  rw [← hw3]
  clear hw3
  refine (Len_calls HT3.out).mono ?_
  rintro e w4 ⟨rfl, rfl⟩
  rw [show es14.length = 2 by decide]
  go_wp2_with fail
  refine (CFaults_calls HT3.out (by decide)).mono ?_
  rw [faults14]
  rintro e w5 ⟨A5, c5, rfl, hC5, hB5⟩
  have HC5 := Lib.hid hC5
  have HA5 := Lib.hid (below_step HA3.out hB5)
  clear hC5 hB5
  have hB6 : Below w5.heap.size w5 (w5.alloc (.cells #[.int .i64 0, .int .i64 0, .int .i64 9, .int .i64 1, .int .i64 6, .int .i64 6] 79)) := (Below.refl _ _).alloc (Nat.le_refl _) _
  have hD6 : Kd.C kFt (w5.alloc (.cells #[.int .i64 0, .int .i64 0, .int .i64 9, .int .i64 1, .int .i64 6, .int .i64 6] 79)) (some ⟨w5.heap.size, 0, none⟩) 2 [⟨0, 0, 9⟩, ⟨1, 6, 6⟩] :=
    C_blk (d := kFt) (xs := [⟨0, 0, 9⟩, ⟨1, 6, 6⟩]) (World.alloc_heap_new w5 _) (((Reps.none _ 3).snoc (kFt_mk _ ⟨0, 0, 9⟩) rfl).snoc (kFt_mk _ ⟨1, 6, 6⟩) rfl) (by decide)
  have HS := Lib.hid (SameF_calls (c := c5) (d := 2) (Kd.C_below HC5.out hB6) hD6)
  have HA6 := Lib.hid (below_step HA5.out hB6)
  clear hB6 hD6
  go_wp2_with fail
  refine HS.out.mono ?_
  rintro e w6 ⟨rfl, h6⟩
  have HA7 := Lib.hid (below_step HA6.out h6)
  clear h6
  rw [show sameF [(⟨0, 0, 9⟩ : Ft), ⟨1, 6, 6⟩] [⟨0, 0, 9⟩, ⟨1, 6, 6⟩] = true from decide_eq_true rfl]
  go_wp2_with fail
  go_ret
  exact ⟨rfl, HA7.out⟩
end Go.Proofs.YtbfkkepdeepdeaaGreatDoor
end
section
namespace Go.Proofs.YtbfkkepdeepdeaaGreatDoor
open Go Go.RowKit Go.Maps Go.Shelf Go.Proofs.YtbfkkepdeepdeaaGreatDoorW.PrintWords Go.Proofs.YtbfkkepdeepdeaaGreatDoorW.PrintLast Go.Proofs.YtbfkkepdeepdeaaGreatDoorW.PrintMore
set_option linter.unusedVariables false
set_option linter.unusedSimpArgs false
set_option maxRecDepth 100000
attribute [local go_sem] Oper.semAt_some
theorem resB {F : Func} {i b : Nat} {tmps : Array Value} {W : World} {v : Value} (hF : F.results = #[.cell i 4]) (h : tmps.getD i undef = .pointer (some ⟨b, 0, none⟩)) (hb : W.heap[b]? = some (.cells #[v] 4 (0, 0))) : (results F tmps).run Tryz.prog W = .ok v W := by
  have h' : tmps[i]?.getD undef = .pointer (some ⟨b, 0, none⟩) := by simpa using h
  have c0 := (cell_blk hb 0).trans rfl
  simp [results, hF, h', go_sem, c0]
theorem Main_nil (w : World) : Calls Tryz.prog 24 #[.pointer none] w fun e w' => e = .returned (.tuple #[.int .i64 0, .bool false]) ∧ w = w' := by
  go_enter Tryz.func24, Tryz.ntmps24
  go_wp2
  go_ret2
  exact ⟨rfl, rfl⟩
theorem CFaults_nil (w : World) : Calls Tryz.prog 12 #[.pointer none] w fun e w' => e = .returned (.slice none 0 0) ∧ Below w.heap.size w w' := by
  go_enter Tryz.func12, Tryz.ntmps12
  go_wp2
  go_ret
  exact ⟨rfl, (Below.refl _ _).alloc (Nat.le_refl _) _⟩
theorem all_nil_stops {n : Nat} (hn : 1 ≤ n) {w : World} {bt : Nat} {Kp : World → World → Prop} (ht : w.cell? ⟨bt, 0, none⟩ = some (.pointer none)) (hbt : bt < w.heap.size) :
    SeqStopsK Fence.wide n Tryz.prog 30 #[.pointer (some ⟨bt, 0, none⟩)] encA Kp (fun ys => ys = []) (fun pre => False) 0 w := fun l J Jx W hW hJ _ hY h0 => by
  have hct := (hW.cell (p := ⟨bt, 0, none⟩) hbt).trans ht
  refine callsIn_of_wp Tryz.func30 rfl trivial ?_ rfl
  simp only [Tryz.ntmps30, List.size_toArray, List.length_cons, List.length_nil, Nat.reduceAdd, Nat.reduceSub, Array.replicate_succ, Array.replicate_zero, List.push_toArray, List.append_toArray, List.nil_append, List.cons_append]
  gi_wp2_with (refine ⟨trivial, ?_⟩; gi_at_call 28; refine (callsIn_wide.2 (Len_nil_calls W)).mono ?_; rintro e w1 ⟨rfl, rfl⟩)
  gi_loopw [6] (fun i wr => i = .int .i64 0 ∧ W = wr) (fun i _ => 0)
  case atStart => exact ⟨rfl, rfl⟩
  case round =>
    obtain ⟨rfl, rfl⟩ := hrel
    gi_wp2
    go_end0
    exact ⟨⟨_, rfl⟩, .inl ⟨_, rfl, h0⟩⟩
theorem setF_next {l : List Ft} {k : Nat} (hk : k < l.length) : setF (l.take (k + 1)) = putF l[k] (setF (l.take k)) := by rw [List.take_succ_eq_append_getElem hk, setF_snoc]
set_option maxHeartbeats 2000000 in
theorem ClassSorts_walk {w : World} {A : Option Addr} {c : Nat} {l : List Ft} (hC : Kd.C kFt w A l.length l) (E : Env w) :
    Calls Tryz.prog 6 #[.slice A l.length c] w fun e w' => e = .returned (.bool true) ∧ Below w.heap.size w w' := by
  obtain ⟨w1, hw1⟩ : ∃ w1, w1 = w.alloc (.cells #[.bool false] 4) := ⟨_, rfl⟩
  have hA1 : Below w.heap.size w w1 := by rw [hw1]; exact (Below.refl _ _).alloc (Nat.le_refl _) _
  have HB := Lib.hid (show w1.heap[w.heap.size]? = some (.cells #[.bool false] 4 (0, 0)) by rw [hw1]; exact World.alloc_heap_new w _)
  have HAL := Lib.hid (alive14_calls (E.below hA1))
  rw [hw1] at HAL
  have HC1 := Lib.hid (Kd.C_below hC hA1)
  have HA := Lib.hid hA1
  have hz1 : w1.heap.size = w.heap.size + 1 := by rw [hw1]; simp
  have hmax := hC.2.1
  obtain ⟨n, hn⟩ : ∃ n, n = l.length := ⟨_, rfl⟩
  rw [← hn] at HC1 hmax ⊢
  have HN := Lib.hid hn
  clear hA1 hC E hn
  refine (callsIn_wide (n := 3)).1 ?_
  refine callsIn_of_wp_marks Tryz.func6 rfl trivial ?_ rfl
  simp only [Tryz.ntmps6, List.size_toArray, List.length_cons, List.length_nil, Nat.reduceAdd, Nat.reduceSub, Array.replicate_succ, Array.replicate_zero, List.push_toArray, List.append_toArray, List.nil_append, List.cons_append]
  refine wpIn_wide.2 ?_
  go_wp2_with fail
  refine HAL.out.mono ?_
  rintro e w2 ⟨rfl, h2⟩
  rw [← hw1] at h2
  have HB2 := Lib.hid ((h2.block w.heap.size (by omega)).trans HB.out)
  have HC2 := Lib.hid (Kd.C_below HC1.out h2)
  have HA2 := Lib.hid (below_step HA.out h2)
  have hz2 : w.heap.size < w2.heap.size := by have := h2.size; omega
  clear h2 HAL hw1
  have b0 := (cell_blk HB2.out 0).trans rfl
  have f0 := frozen_blk HB2.out 0
  by_cases hg : 200 < n
  · have hgt : decide ((n : Int) ≤ 200) = false := by simp; omega
    go_wp2_with fail
    exact ⟨_, resB Tryz.results6 rfl (heap_setCell_same HB2.out 0 (.bool true)), rfl, HA2.out.setCell (p := ⟨w.heap.size, 0, none⟩) (Nat.le_refl _) _⟩
  · have hgt : decide ((n : Int) ≤ 200) = true := by simp; omega
    go_wp2_with fail
    go_loopw [3, 20] (fun v k wr => ∃ (i q : Nat) (A3 : Option Addr) (c3 : Nat), k = .int .i64 i ∧ i ≤ n ∧ v = .slice A3 q c3 ∧ q ≤ c3 ∧ Hid (q = (setF (l.take i)).length) ∧ Hid (Kd.C kFt wr A3 q (setF (l.take i))) ∧ Hid (Below w2.heap.size w2 wr)) (fun v k _ => n - (intOf k).toNat)
    case atStart => exact ⟨0, 0, none, 0, rfl, Nat.zero_le _, rfl, Nat.le_refl _, Lib.hid rfl, Lib.hid (Kd.C_nil _ _), Lib.hid (Below.refl _ _)⟩
    case round =>
      obtain ⟨i, q, A3, c3, rfl, hin, rfl, hqc, hq, hS, hb⟩ := hrel
      by_cases hlt : i < n
      · have hlti : (i : Int) < (n : Int) := by omega
        have hil : i < l.length := by have := HN.out; omega
        obtain ⟨ad, e, c0, c1, c2⟩ := kFt_at (fun a v h => cell_later hb.out h) HC2.out i hlt
        subst e
        obtain ⟨x, hx⟩ : ∃ x, x = l.getD i zFt := ⟨_, rfl⟩
        rw [← hx] at c0 c1 c2
        have HX := Lib.hid (show setF (l.take (i + 1)) = putF x (setF (l.take i)) by rw [setF_next hil, hx, List.getD_eq_getElem?_getD, List.getElem?_eq_getElem hil]; rfl)
        have hq200 : q ≤ 200 := by rw [hq.out]; have := len_setF (l.take i); rw [List.length_take] at this; omega
        have hB4 : Below wr.heap.size wr (wr.alloc (.cells #[.int .i64 x.file, .int .i64 x.pos, .int .i64 x.code] 79)) := (Below.refl _ _).alloc (Nat.le_refl _) _
        have HP := Put_calls (c := c3) (by rw [← hq.out]; exact Kd.C_below hS.out hB4) (by rw [← hq.out]; exact hqc) (by rw [← hq.out]; omega) x
        rw [← hq.out, ← HX.out] at HP
        have HPP := Lib.hid HP
        have HB4 := Lib.hid (below_step hb.out hB4)
        clear hx hB4 HP hS
        go_wp2_with fail
        refine HPP.out.mono ?_
        rintro e w5 ⟨A5, c5, rfl, hl5, hC5, h5⟩
        obtain ⟨q5, hq5⟩ : ∃ q, q = (setF (l.take (i + 1))).length := ⟨_, rfl⟩
        rw [← hq5] at hl5 hC5 ⊢
        have HC5 := Lib.hid hC5
        have HQ5 := Lib.hid hq5
        have HB5 := Lib.hid (below_step HB4.out h5)
        clear hC5 hq5 h5 HPP
        go_wp2_with fail
        exact ⟨⟨i + 1, q5, A5, c5, by simp, by omega, rfl, hl5, HQ5, HC5, HB5⟩, by simp only [intOf]; omega⟩
      · have hge : (n : Int) ≤ (i : Int) := by omega
        have hT : l.take i = l := List.take_of_length_le (by have := HN.out; omega)
        have HQ := Lib.hid (show q = (setF l).length by rw [hq.out, hT])
        have HS := Lib.hid (show Kd.C kFt wr A3 q (setF l) by have := hS.out; rwa [hT] at this)
        clear hT hq hS
        go_wp2_with fail
        refine (at_nil 0 _).mono ?_
        rintro e w5 ⟨rfl, h5⟩
        have HB5 := Lib.hid (below_step hb.out h5)
        have HS5 := Lib.hid (Kd.C_below HS.out h5)
        clear h5 HS
        go_wp2_with fail
        obtain ⟨w6, hw6⟩ : ∃ w6, w6 = w5.alloc (.cells #[.int .i64 0, .bool false, .string ⟨#[]⟩, .int .i64 0, .string ⟨#[]⟩, .int .i64 0, .slice none 0 0, .slice none 0 0, .string ⟨#[]⟩, .int .i64 0, .slice none 0 0] 38) := ⟨_, rfl⟩
        have h6 : Below w5.heap.size w5 w6 := by rw [hw6]; exact (Below.refl _ _).alloc (Nat.le_refl _) _
        have HB6 := Lib.hid (below_step HB5.out h6)
        have HS6 := Lib.hid (Kd.C_below HS5.out h6)
        rw [← hw6]
        clear hw6 h6 HS5 HB5 hb
        refine (find_nil _ _).mono ?_
        rintro e w7 ⟨rfl, rfl⟩
        go_wp2_with fail
        refine (Main_nil _).mono ?_
        rintro e w8 ⟨rfl, rfl⟩
        go_wp2_with fail
        refine (All_tbl_calls _).mono ?_
        rintro e w7 ⟨rfl, hw7⟩
        have h7 : Below w6.heap.size w6 w7 := by rw [hw7]; exact (Below.refl _ _).alloc (Nat.le_refl _) _
        have HB7 := Lib.hid (below_step HB6.out h7)
        have HS7 := Lib.hid (Kd.C_below HS6.out h7)
        have hc7 : w7.cell? ⟨w6.heap.size, 0, none⟩ = some (.pointer none) := by rw [hw7]; exact (cell_blk (World.alloc_heap_new w6 _) 0).trans rfl
        have hl7 : w6.heap.size < w7.heap.size := by rw [hw7]; simp
        clear hw7 h7 HS6
        go_wp2_with fail
        refine (wpIn_wide (n := 3)).1 ?_
        refine wpIn_rangeFunc_ownH (F := Fence.wide) (n := 3) (w := w7) (w0 := w7) rfl (by decide) (gf := 30) (lb := #[.pointer (some ⟨w6.heap.size, 0, none⟩)]) rfl trivial (enters_of Tryz.func30 (by kernel_rfl) rfl)
          (all_nil_stops (n := 2) (by decide) (Kp := Below w7.heap.size) hc7 hl7) (fun h k => h.trans k) (fun W l o o' hl _ _ _ => below_putObj (Below.refl _ _) (by omega) _) (Below.refl _ _) (fun _ => rfl)
          (fun pre W => Below w7.heap.size w7 W) (fun _ _ _ => False) (fun pre W W' row hs hg hr => below_kept hs hg (fun r e => (hr r e).1)) (fun _ _ _ _ _ hs _ _ => hs) (Below.refl _ _)
          (fun x a' W => True)
          ?hax ?assign ?body ?done ?stop
        case hax => exact fun x a' => fun _ _ _ _ _ _ _ => trivial
        case assign =>
          rintro l2 pre x W K hi hK
          gi_wp2
          exact hK _ _ ((KeepsOthers.refl _).from _) (Below.refl _ _) hi trivial
        case body =>
          rintro l2 pre x a' W hl _ _ _ hlt
          exact absurd hlt (Nat.not_lt_zero _)
        case stop =>
          rintro D c2 pre W hD hpre hI hK
          exact hI.elim
        case done =>
          rintro D ys W hD hys hI hK
          have HBW := Lib.hid (below_step HB7.out hI)
          have HSo := Lib.hid (Sorted_calls (c := c) (by rw [← HN.out]; exact Kd.C_below HC2.out HBW.out) (by have := HN.out; omega))
          rw [← HN.out, ← HQ.out] at HSo
          have HSW := Lib.hid (Kd.C_below HS7.out hI)
          have HKD := Lib.hid hK
          have HD := Lib.hid hD
          have hDl : D < W.heap.size := (Array.getElem?_eq_some_iff.1 hK).1
          have hDw : w2.heap.size ≤ D := by have := HB7.out.size; omega
          clear hI hK hD hys hc7 hl7
          gi_wp2_with fail
          go_wp2_with fail
          refine HSo.out.mono ?_
          rintro e w8 ⟨A8, c8, rfl, hC8, h8⟩
          have HB8 := Lib.hid (below_step HBW.out h8)
          have HK8 := Lib.hid ((h8.block D hDl).trans HKD.out)
          have HSS := Lib.hid (SameF_calls (c := c8) (d := c3) hC8 (Kd.C_below HSW.out h8))
          rw [show sameF (setF l) (setF l) = true from decide_eq_true rfl] at HSS
          have hD8 : D < w8.heap.size := (Array.getElem?_eq_some_iff.1 HK8.out).1
          clear h8 hC8 HSo
          go_wp2_with fail
          refine HSS.out.mono ?_
          rintro e w9 ⟨rfl, h9⟩
          have HB9 := Lib.hid (below_step HB8.out h9)
          have HK9 := Lib.hid ((h9.block D hD8).trans HK8.out)
          have hD9 : D < w9.heap.size := (Array.getElem?_eq_some_iff.1 HK9.out).1
          clear h9 HSS
          go_wp2_with fail
          refine (Len_nil_calls _).mono ?_
          rintro e w10 ⟨rfl, rfl⟩
          go_wp2_with fail
          refine (CFaults_nil _).mono ?_
          rintro e w10 ⟨rfl, h10⟩
          have HB10 := Lib.hid (below_step HB9.out h10)
          have HK10 := Lib.hid ((h10.block D hD9).trans HK9.out)
          have HBX := Lib.hid ((HB10.out.block w.heap.size hz2).trans HB2.out)
          clear h10 b0 f0
          have b0 := (cell_blk HBX.out 0).trans rfl
          have f0 := frozen_blk HBX.out 0
          go_wp2_with fail
          have hK11 : (w10.setCell ⟨w.heap.size, 0, none⟩ (.bool true)).heap[D]? = some (Obj.deferred (some [])) := by
            rw [Below.heap_setCell _ _ _ _ (by show D ≠ w.heap.size; omega)]; exact HK10.out
          refine ⟨by simp, .inl ⟨_, _, rfl, run_takeDeferred hK11, ?_⟩⟩
          refine ⟨_, resB Tryz.results6 rfl ((World.putObj_heap_other (by omega)).trans (heap_setCell_same HBX.out 0 (.bool true))), rfl, ?_⟩
          exact below_putObj ((HA2.out.trans (HB10.out.mono (by omega))).setCell (p := ⟨w.heap.size, 0, none⟩) (Nat.le_refl _) _) (by omega) _
end Go.Proofs.YtbfkkepdeepdeaaGreatDoor
end
section
namespace Go.Proofs.YtbfkkepdeepdeaaGreatDoor
open Go.RowKit Go.Proofs.YtbfkkepdeepdeaaGreatDoorW.PrintWords Go.Proofs.YtbfkkepdeepdeaaGreatDoorW.PrintLast Go.Proofs.YtbfkkepdeepdeaaGreatDoorW.PrintMore
set_option linter.unusedVariables false
set_option linter.unusedSimpArgs false
def OpensAt {α : Type} (P : Program) (n : Nat) (d : Kd α) (t : Nat) (G : α → Prop) : Prop :=
  ∀ (H : Type) (enc : TypeId × Value → H) (w : World) (base : Nat) (sp : Nat → Bool) (held : Bool) (cs : List Value) (x : DataW H × List MemPlace), DataW.trod enc P w base sp held n t cs = some x → ∃ a, d.K w a cs ∧ G a
def Opens {α : Type} (P : Program) (d : Kd α) (t : Nat) (G : α → Prop) : Prop := ∀ n, OpensAt P n d t G
section
variable {P : Program}
theorem opens_int {k : IntKind} {t : Nat} (ht : P.underlying t = some (.int k)) : Opens P (Kd.int k) t (fun n => (Lit.int k n).wf = true) := by
  intro n H enc w base sp held cs x h
  obtain ⟨m, rfl, -, hw⟩ := DataW.trod_int ht h
  exact ⟨m, rfl, hw⟩
theorem choose_list {α : Type} {m : Nat} {R : Nat → α → Prop} (h : ∀ i, i < m → ∃ a, R i a) : ∃ l : List α, l.length = m ∧ ∀ i a, l[i]? = some a → R i a := by
  induction m with
  | zero => exact ⟨[], rfl, fun i a h => by simp at h⟩
  | succ m ih =>
    obtain ⟨l, hl, hr⟩ := ih (fun i hi => h i (by omega))
    obtain ⟨a, ha⟩ := h m (by omega)
    refine ⟨l ++ [a], by simp [hl], fun i b hb => ?_⟩
    rcases Nat.lt_or_ge i l.length with hlt | hge
    · rw [List.getElem?_append_left hlt] at hb; exact hr i b hb
    · have := (List.getElem?_eq_some_iff.1 hb).1
      have hi : i = l.length := by simp at this; omega
      subst hi
      rw [List.getElem?_append_right (Nat.le_refl _)] at hb
      simp at hb; subst hb; rw [hl]; exact ha
theorem opensAt_slice {α : Type} {d : Kd α} {t e n : Nat} {G : α → Prop} (ht : P.underlying t = some (.slice e)) (hs : P.cellsOf e = d.sz) (hd : ∀ m, m < n → OpensAt P m d e G) : OpensAt P n (Kd.slice e d) t (fun l => ∀ x ∈ l, G x) := by
  intro H enc w base sp held cs x h
  rcases DataW.trod_slice ht h with ⟨rfl, _⟩ | ⟨a, len, cap, elems, rest, m, hm, rfl, -, hb, hl, hmx, hlen, hel, -, -⟩
  · exact ⟨[], ⟨none, 0, rfl, Nat.le_refl _, Kd.C_nil _ _⟩, fun x hx => by cases hx⟩
  · have key : ∀ i, i < len → ∃ y : α, G y ∧ ∃ c : List Value, c.length = d.sz ∧ d.K w y c ∧ ∀ j u, c[j]? = some u → w.cell? (a.add (i * d.sz + j)) = some u := by
      intro i hi
      have h1 := hel i hi
      have h2 : elems[i]? = some (elems[i]'(by omega)) := List.getElem?_eq_getElem (by omega)
      rw [h2, Option.bind_eq_some_iff] at h1
      obtain ⟨c, hc, hr⟩ := h1
      obtain ⟨y, hK, hG⟩ := hd m (by omega) _ enc w base sp held c _ hr
      obtain ⟨-, hcl, hat⟩ := World.cells?_some hc
      rw [hs] at hcl hat
      refine ⟨y, hG, c, hcl, hK, fun j u hu => ?_⟩
      have hj := (List.getElem?_eq_some_iff.1 hu).1
      rw [← Go.Deep.add_add, hat j (by omega), hu]
    obtain ⟨l, hll, hlr⟩ := choose_list key
    refine ⟨l, ⟨some a, cap, by rw [hll], by rw [hll]; exact hl, rfl, by rw [hll]; unfold maxLen at hmx; omega, fun _ => ⟨a, rfl, fun j p hp => (hlr j p hp).2⟩⟩, fun y hy => ?_⟩
    obtain ⟨j, hj, rfl⟩ := List.getElem_of_mem hy
    exact (hlr j _ (List.getElem?_eq_getElem hj)).1
theorem opens_slice {α : Type} {d : Kd α} {t e : Nat} {G : α → Prop} (ht : P.underlying t = some (.slice e)) (hs : P.cellsOf e = d.sz) (hd : Opens P d e G) : Opens P (Kd.slice e d) t (fun l => ∀ x ∈ l, G x) := fun n => opensAt_slice ht hs (fun m _ => hd m)
def OpensF {α : Type} (P : Program) (n : Nat) (d : Kd α) (fs : List Field) (off : Nat) (G : α → Prop) : Prop :=
  ∀ (H : Type) (enc : TypeId × Value → H) (w : World) (base : Nat) (sp : Nat → Bool) (held : Bool) (cs : List Value), cs.length = off + d.sz → (∀ f ∈ fs, ∃ y, DataW.trod enc P w base sp held n f.type ((cs.drop f.offset).take (P.cellsOf f.type)) = some y) → ∃ a, d.K w a (cs.drop off) ∧ G a
theorem opensF_one {α : Type} {d : Kd α} {f : Field} {off n : Nat} {G : α → Prop} (ho : f.offset = off) (hs : P.cellsOf f.type = d.sz) (hd : OpensAt P n d f.type G) : OpensF P n d [f] off G := by
  intro H enc w base sp held cs hl h
  obtain ⟨y, hy⟩ := h f (by simp)
  rw [ho, hs, List.take_of_length_le (by rw [List.length_drop]; omega)] at hy
  exact hd _ enc w base sp held _ _ hy
theorem opensF_cons {α β : Type} {a : Kd α} {b : Kd β} {f : Field} {fs : List Field} {off n : Nat} {Ga : α → Prop} {Gb : β → Prop} (ho : f.offset = off) (hs : P.cellsOf f.type = a.sz) (ha : OpensAt P n a f.type Ga) (hb : OpensF P n b fs (off + a.sz) Gb) :
    OpensF P n (Kd.pair a b) (f :: fs) off (fun p => Ga p.1 ∧ Gb p.2) := by
  intro H enc w base sp held cs hl h
  have hl' : cs.length = off + (a.sz + b.sz) := hl
  obtain ⟨y, hy⟩ := h f (by simp)
  rw [ho, hs] at hy
  obtain ⟨x, hK, hG⟩ := ha _ enc w base sp held _ _ hy
  obtain ⟨z, hK2, hG2⟩ := hb _ enc w base sp held cs (by omega) (fun g hg => h g (List.mem_cons_of_mem _ hg))
  refine ⟨(x, z), ⟨(cs.drop off).take a.sz, cs.drop (off + a.sz), ?_, hK, hK2⟩, hG, hG2⟩
  rw [← List.drop_drop]
  exact (List.take_append_drop _ _).symm
theorem opensAt_struct {α β : Type} {d : Kd α} {f : β → α} {g : α → β} {t n : Nat} {fs : Array Field} {G : α → Prop} {G' : β → Prop} (ht : P.underlying t = some (.struct fs)) (hs : P.cellsOf t = d.sz) (hf : ∀ m, n = m + 1 → OpensF P m d fs.toList 0 G) (hg : ∀ a, f (g a) = a) (hG : ∀ a, G a → G' (g a)) :
    OpensAt P n (Kd.iso d f) t G' := by
  intro H enc w base sp held cs x h
  obtain ⟨xs, m, rfl, -, hl, hxl, hat⟩ := DataW.trod_struct ht h
  obtain ⟨a, hK, hGa⟩ := hf m rfl _ enc w base sp held cs (by rw [hl, hs]; omega) (fun q hq => by
    obtain ⟨j, hj, rfl⟩ := List.getElem_of_mem hq
    have hj' : j < fs.size := by simpa using hj
    have h1 := hat j (fs[j]) (by rw [Array.getElem?_eq_getElem hj'])
    rw [List.getElem?_eq_getElem (by omega)] at h1
    exact ⟨_, by simpa using h1⟩)
  exact ⟨g a, by show d.K w (f (g a)) cs; rw [hg]; simpa using hK, hG a hGa⟩
end
theorem c_int : Tryz.prog.cellsOf 3 = 1 := by kernel_rfl
abbrev G1 : ByteArray → Prop := fun s => s.size ≤ maxLen
abbrev G2 : Int → Prop := fun n => (Lit.int .i64 n).wf = true
abbrev G3 : Bool → Prop := fun _ => True
abbrev GA {α β : Type} (a : α → Prop) (b : β → Prop) : α × β → Prop := fun p => a p.1 ∧ b p.2
set_option maxRecDepth 100000 in
theorem opensFt : Opens Tryz.prog kFt 79 (fun _ => True) := fun n => by
  refine opensAt_struct (g := fun p => (⟨p.1, p.2.1, p.2.2⟩ : Ft)) (G := GA G2 (GA G2 G2)) Tryz.underlying79 (by kernel_rfl) (fun m _ => ?_) (fun a => rfl) ?_
  · refine opensF_cons (off := 0) (a := Kd.int .i64) (Ga := G2) (Gb := GA G2 G2) rfl c_int (opens_int Tryz.underlying3 m) ?_
    refine opensF_cons (off := 1) (a := Kd.int .i64) (Ga := G2) (Gb := G2) rfl c_int (opens_int Tryz.underlying3 m) ?_
    exact opensF_one (off := 2) rfl (by kernel_rfl) (opens_int (by kernel_rfl) m)
  · exact fun a h => trivial
theorem opensFts : Opens Tryz.prog (Kd.slice 79 kFt) 41 (fun l => ∀ x ∈ l, True) := opens_slice Tryz.underlying41 (by kernel_rfl) opensFt
end Go.Proofs.YtbfkkepdeepdeaaGreatDoor
end
section
namespace Go.Proofs.YtbfkkepdeepdeaaGreatDoor
open Go Go.ChangeShapes Go.WideShapes Go.ChangeAt Go.RowKit
set_option linter.unusedVariables false
set_option maxRecDepth 100000
def laidL : List (String × DataW Unit) := [("math/bits.deBruijn32tab", Rows.laid_math_bits_deBruijn32tab), ("math/bits.deBruijn64tab", Rows.laid_math_bits_deBruijn64tab), ("internal/strconv.uint64pow10", Rows.laid_internal_strconv_uint64pow10), ("strconv.ErrRange", Rows.laid_strconv_ErrRange), ("strconv.ErrSyntax", Rows.laid_strconv_ErrSyntax), ("namesake/sign.words", Rows.laid_namesake_sign_words)]
theorem laid_rest {x : String × DataW Unit} {r : List (String × DataW Unit)} {w : World} (h : laidMet Tryz.prog (x :: r) w) : laidMet Tryz.prog r w := by
  obtain ⟨ps, hv, hnd, hrows⟩ := h
  obtain ⟨n, d⟩ := x
  obtain ⟨g, t, cs, fuel, p, q, _, _, _, _, hq, rfl⟩ := hv
  exact ⟨q, hq, List.Nodup.sublist (List.sublist_append_right _ _) hnd, fun b off hm => hrows b off (List.mem_append_right _ hm)⟩
theorem laid_error {n nm : String} {d : DataW Unit} {r : List (String × DataW Unit)} {W : World} {g : Nat} (h : laidMet Tryz.prog ((n, .iface nm d) :: r) W) (hg : Tryz.prog.globalNamed n = some g) (ht : (Tryz.prog.globals[g]?).map (·.type) = some 48) :
    ∃ ev, W.cell? ⟨g, 0, none⟩ = some ev ∧ (ev = .nilIface ∨ ∃ te pe, ev = .iface te pe) := by
  obtain ⟨ps, ⟨g0, t0, cs0, f0, p0, q0, hg0, ht0, hv0, hd0, -, -⟩, -⟩ := h
  obtain rfl := Option.some.inj (hg.symm.trans hg0)
  obtain rfl := Option.some.inj (ht.symm.trans ht0)
  obtain ⟨f1, u, v, hcs, -, -⟩ := iface_of_trod Tryz.underlying48 hd0
  have := World.var?_cell hg0 hv0 0
  rw [Array.eq_one_of_toList hcs] at this
  exact ⟨_, this.trans rfl, .inr ⟨u, v, rfl⟩⟩
theorem laid_words {r : List (String × DataW Unit)} {W : World} (h : laidMet Tryz.prog (("namesake/sign.words", Rows.laid_namesake_sign_words) :: r) W) :
    ∀ j, j < 18 → W.cell? ⟨0, j, none⟩ = some (.string (keyL.getD j ByteArray.empty)) := by
  obtain ⟨ps, ⟨g0, t0, cs0, f0, p0, q0, hg0, ht0, hv0, hd0, -, -⟩, -⟩ := h
  obtain rfl := Option.some.inj ((show Tryz.prog.globalNamed "namesake/sign.words" = some 0 by kernel_rfl).symm.trans hg0)
  obtain rfl := Option.some.inj ((show (Tryz.prog.globals[0]?).map (·.type) = some 354 by kernel_rfl).symm.trans ht0)
  obtain ⟨xs, m1, rfl, hx1, hlen, hn3, hel⟩ := DataW.trod_array Tryz.underlying354 hd0
  have c9 : Tryz.prog.cellsOf 9 = 1 := by kernel_rfl
  have hxs : xs.map (·.1) = keyL.map (fun s => (.lit (.string s.data.toList) : DataW Unit)) := by
    have h1 := congrArg Prod.fst hx1
    simp only at h1
    injection h1 with h1
    rw [← h1]; rfl
  intro j hj
  have h1 := hel j hj
  rw [c9, Nat.mul_one] at h1
  have hjx : j < xs.length := by omega
  rw [List.getElem?_eq_getElem hjx] at h1
  obtain ⟨s, e1, e2, -⟩ := DataW.trod_string Tryz.underlying9 h1
  have h2 : (xs.map (·.1))[j]? = some (.lit (.string s.data.toList)) := by rw [List.getElem?_map, List.getElem?_eq_getElem hjx, e2]; rfl
  have hjk : j < keyL.length := hj
  rw [hxs, List.getElem?_map, List.getElem?_eq_getElem hjk] at h2
  have h3 : keyL[j].data.toList = s.data.toList := by
    injection h2 with h2; injection h2 with h2; injection h2
  have h4 : keyL[j] = s := by
    obtain ⟨⟨a⟩⟩ := s
    generalize keyL[j] = k at h3
    obtain ⟨⟨b⟩⟩ := k
    simp only at h3
    rw [h3]
  have h5 := World.var?_cell hg0 hv0 j
  rw [h5, List.getD_eq_getElem?_getD, List.getElem?_eq_getElem hjk]
  simp only [Option.getD_some]
  rw [h4]
  have h6 : (cs0.toList.drop j).take 1 = [.string s] := e1
  have h7 : cs0.toList[j]? = some (.string s) := by
    have := congrArg (fun l => l[0]?) h6
    simpa [List.getElem?_take, List.getElem?_drop] using this
  rw [← Array.getElem?_toList]; exact h7
theorem env_of_laid {W : World} (h : laidMet Tryz.prog laidL W) (hsh : W.ShapedOpen Tryz.prog) : Env W where
  max := cell_of_shapedOpen_int (t := 3) (zero := #[.int .i64 0]) hsh (by decide +kernel) (by kernel_rfl) rfl (by kernel_rfl) (by kernel_rfl) Tryz.underlying3
  pow := by
    have h2 : laidMet Tryz.prog (("internal/strconv.uint64pow10", Lib.tabData .u64 Lib.pow10Tab) :: _) W := laid_rest (laid_rest h)
    exact Lib.tabIs_of_head pow_named (t := 375) (by kernel_rfl) Tryz.underlying375 Tryz.underlying214 (by kernel_rfl) (by kernel_rfl) h2
  syn := laid_error (laid_rest (laid_rest (laid_rest (laid_rest h)))) (by kernel_rfl) (by kernel_rfl)
  rng := laid_error (laid_rest (laid_rest (laid_rest h))) (by kernel_rfl) (by kernel_rfl)
  key := laid_words (laid_rest (laid_rest (laid_rest (laid_rest (laid_rest h)))))
theorem door_met (os : Os) (args : Array Value) : laidMetH Tryz.prog laidL ((World.doorLaid Tryz.prog 400 os).forCall (fun _ _ => 0) ⟨#[], args, []⟩).memory :=
  laidMetH_of_parts3 (fuel := 8) (laidMet_of_run' 8 (by kernel_rfl) (by kernel_rfl)) (by kernel_rfl) (by kernel_rfl)
theorem env_of_laidH {W : World} (h : laidMetH Tryz.prog laidL W) (hsh : W.ShapedOpen Tryz.prog) : Env W := by
  rw [MakeChecks.laidMetH_plain _ _ _ (by kernel_rfl)] at h
  exact env_of_laid h hsh
section
variable {H : Type} {enc : TypeId × Value → H}
theorem handed_and_shaped {a : Assume} {C : Checked} {os : Os} {f : FuncId} {fn : Func} {s : ChangeSpec} {conds : List PathCond} {apart fresh handsOn again : Bool} {X : World → Array Value → Prop}
    (hX : ∀ (w w' : World) (args : Array Value), w.heap = w'.heap → X w args → X w' args)
    (own : ownKnob C.prog.godebug = none) (started : os.Started) (noInit : C.prog.inits.idxOf? f = none) (hfn : C.prog.funcs[f]? = some fn)
    (witness : ∃ (w : World) (tape : Tape) (i : Input), w.os = os ∧ (w.forCall tape i).Shaped C.prog ∧ i.vars = [] ∧ Input.okWide C.prog (w.forCall tape i) .any w.heap.size f i ∧
      ((s.pre enc C.prog fn conds apart (w.forCall tape i).memory i.args ∧ X (w.forCall tape i).memory i.args) ∧ sizedMet enc C.prog fn (OpenSpec.ofChange s) apart (w.forCall tape i).memory i.args) ∧ a.holds C.prog (lone (Frame.enter C.prog f i.args .normal) [] (w.forCall tape i)))
    (contract : ∀ (W : World) (base : Nat) (args : Array Value) (ds gs : List (DataW H)) (before : List MemPlace),
      (∀ (j : Nat) t v, fn.params[j]? = some t → args[j]? = some v → Value.okWide C.prog W .any base t v) →
      DataW.Whole enc C.prog fn.params.toList s.vars apart W args.toList ds gs before → X W args → W.ShapedOpen C.prog →
      Calls C.prog f args W fun e W' => ∃ v, e = .returned v ∧ s.post enc C.prog fn apart fresh handsOn again W args v W') :
    ReturnsInHanded a C os f .any (fun w args => (s.pre enc C.prog fn conds apart w args ∧ X w args) ∧ sizedMet enc C.prog fn (OpenSpec.ofChange s) apart w args) (s.post enc C.prog fn apart fresh handsOn again) := by
  refine returnsInHanded_of_calls own started noInit witness ?_
  intro w tape i _ hsh _ hok hpre _
  obtain ⟨_, _, _, fn', hfn', _, _, _, _, hval⟩ := hok
  obtain rfl : fn' = fn := Option.some.inj (hfn'.symm.trans hfn)
  obtain ⟨⟨⟨ds, gs, before, hw, -⟩, hx⟩, -⟩ := hpre
  refine (contract (w.forCall tape i) w.heap.size i.args ds gs before hval (DataW.Whole.of_heap (w' := w.forCall tape i) (by rfl) hw) (hX _ _ _ (by rfl) hx) hsh).mono fun e W' ⟨v, he, hp⟩ => ?_
  subst he
  exact ChangeSpec.post_blind hp
end
end Go.Proofs.YtbfkkepdeepdeaaGreatDoor
end
