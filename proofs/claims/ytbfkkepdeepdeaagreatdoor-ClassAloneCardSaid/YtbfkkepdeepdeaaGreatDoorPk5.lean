/- A part of the proof: The row of ClassAlone: for every input the statement returns true; and its card. -/
import Derived.Test.YtbfkkepdeepdeaaGreatDoorProg
import Derived.Deep.Slices
import Derived.ChangeArms
import Derived.KernelRfl
import Derived.SizedLaws
import Derived.Test.YtbfkkepdeepdeaaGreatDoorRows
import Derived.WalkKit
import Derived.ProofKit
import Derived.OpenShut
import Derived.ShutString
import Derived.ChangeOld
import Derived.Below
import Derived.Handed
import Derived.LaidMore
import Derived.Lib.LaidTab
import Derived.MakeChecks
import Derived.Stop.Joined
import Derived.Shelf.Vars
import Derived.Test.YtbfkkepdeepdeaaGreatDoorPk4
section
namespace Go.Proofs.YtbfkkepdeepdeaaGreatDoor
open Go Go.RowKit Go.Maps Go.Shelf Go.Proofs.YtbfkkepdeepdeaaGreatDoorW.PrintWords Go.Proofs.YtbfkkepdeepdeaaGreatDoorW.PrintLast Go.Proofs.YtbfkkepdeepdeaaGreatDoorW.PrintMore
set_option linter.unusedVariables false
set_option linter.unusedSimpArgs false
set_option maxRecDepth 100000
attribute [local go_sem] Oper.semAt_some
def fnd0 (xs : List En) (s : ByteArray) : Int := ((fnd xs s).getD 0 : Nat)
def cfOf (xs : List En) (m : Int) (a : Int × En) : List Ft :=
  (if fnd0 xs a.2.cls.name.text = a.1 then [] else [⟨a.2.file, a.2.cls.name.pos, 6⟩]) ++ (if a.2.cls.main = true ∧ m ≠ a.1 then [⟨a.2.file, a.2.cls.name.pos, 9⟩] else [])
def cf0 (m : Int) : List Ft := if m < 0 then [⟨0, 0, 9⟩] else []
def classFs (xs : List En) (m : Int) : List Ft := cf0 m ++ (sees xs xs.length).flatMap (cfOf xs m)
def cfA (xs : List En) (m : Int) (pre : List AE) : List Ft := cf0 m ++ (pre.map AE.key).flatMap (cfOf xs m)
theorem cfA_snoc (xs : List En) (m : Int) (pre : List AE) (a : AE) : cfA xs m (pre ++ [a]) = cfA xs m pre ++ cfOf xs m a.key := by simp [cfA]
theorem cfOf_len (xs : List En) (m : Int) (a : Int × En) : (cfOf xs m a).length ≤ 2 := by
  unfold cfOf
  rw [List.length_append]
  split <;> split <;> simp
theorem cfA_len (xs : List En) (m : Int) : ∀ l : List (Int × En), (l.flatMap (cfOf xs m)).length ≤ 2 * l.length
  | [] => by simp
  | a :: l => by
    have h1 := cfOf_len xs m a
    have h2 := cfA_len xs m l
    simp only [List.flatMap_cons, List.length_append, List.length_cons]
    omega
theorem cfA_le (xs : List En) (m : Int) (pre : List AE) : (cfA xs m pre).length ≤ 2 * pre.length + 1 := by
  have := cfA_len xs m (pre.map AE.key)
  rw [List.length_map] at this
  have h0 : (cf0 m).length ≤ 1 := by unfold cf0; split <;> simp
  unfold cfA
  rw [List.length_append]
  omega
theorem sub_putObj {W : World} {D : Nat} {r : Option (List Deferred)} (h : W.heap[D]? = some (.deferred r)) (o : Obj) : Sub W (W.putObj D o) := fun a v hc => by
  by_cases e : a.block = D
  · unfold World.cell? at hc; rw [e, h] at hc; cases hc
  · exact (World.cell?_of_block (World.putObj_heap_other e)).trans hc
theorem up_kFt : Up kFt := up_iso _ (up_pair (up_int _) (up_pair (up_int _) (up_int _)))
def ftR (x : Ft) (cs : List Value) : Prop := cs = cFt x
theorem look_runF {w : World} {mb N : Nat} {D : DataW Unit} {es : List En} (h : w.ownsMap Tryz.prog 9 (plainElem (H := Unit) Tryz.prog 3) mb N D) (hD : Names D es) {s : ByteArray} (hs : s.size ≤ maxLen) :
    (Instr.lookup 88 (.map (some mb)) (.string s) false).run Tryz.prog w = .ok (.int .i64 (fnd0 es s)) w := by
  obtain ⟨c, hrun, hat, -⟩ := h.lookup_int law9 Tryz.underlying88 Tryz.underlying3 (zero3 w) (Go.WideMaps.keyOf_string_mk Tryz.underlying9 hs)
  obtain ⟨-, h2⟩ := hD s hs
  rw [h2] at hat
  injection hat with hat
  injection hat with _ hat
  rw [hrun, ← hat]; rfl
structure FsI (w w0 : World) (tb bt : Nat) (xs : List En) (m : Int) (pre : List AE) (W : World) : Prop where
  xT : W.heap[w.heap.size]? = some (.cells #[.pointer (some ⟨tb, 0, none⟩)] 25 (0, 0))
  xA : W.heap[bt]? = some (.cells #[.pointer (some ⟨tb, 0, none⟩)] 25 (0, 0))
  out : ∃ v, W.heap[w.heap.size + 1]? = some (.cells #[v] 41 (0, 0)) ∧ OwnRow ftR 79 3 W (w.heap.size + 2) v (cfA xs m pre)
  bel : Below w.heap.size w W
  size : w0.heap.size ≤ W.heap.size
theorem fsi_own {w w0 : World} {tb bt : Nat} {xs : List En} {m : Int} (hw : w.heap.size ≤ w0.heap.size) : OwnFrom w0.heap.size (FsI w w0 tb bt xs m) := fun pre W W' row hs hg hr => by
  obtain ⟨v, h5, inner, ho, hrr⟩ := hs.out
  refine ⟨cells_kept hg hr hs.xT, cells_kept hg hr hs.xA, ⟨v, cells_kept hg hr h5, inner, own_move ho (fun k hk => ?_), hrr⟩, below_kept hs.bel hg (fun r e => Nat.le_trans hw (hr r e).1), Nat.le_trans hs.size hg.size⟩
  obtain ⟨cells, hc⟩ := own_typed ho k hk
  rw [cells_kept hg hr hc, hc]
section
variable {F : Fence} {n : Nat} {P : Program} {ops : Array Oper} {rest : List Oper} {o : Oper} {a : Act} {Q : Exit → Act → World → Prop} {α : Type} {R : α → List Value → Prop}
theorem OwnRow.appendAt {W : World} (base : Nat) (hgd : o.guard = none) (s x : Operand) (t e : TypeId) (z : Value) (size bytes : Nat)
    (ho : o.op = .call { callee := .builtin .append, args := #[s, x], argTypes := #[t, t] })
    (ht : P.underlying t = some (.slice e)) (hinfo : (P.info? e).map (fun i => (i.zero, i.size, i.bytes)) = some (some z, size, bytes)) (hz : z.cells.size = size) (hs0 : 0 < size) (hb0 : 0 < bytes)
    (v : Value) (ps : List α) (p : α) (cs : List Value) (hs : a.eval s = v) (hx : a.eval x = .slice (some ⟨W.heap.size, 0, none⟩) 1 1) (hp : R p cs) (hcs : cs.length = size) (h1 : ∀ u ∈ cs, u.oneCell' = true)
    (HO : OwnRow R e size W base v ps) (hbase : base ≤ W.heap.size) (hl : (ps.length + 1) * bytes ≤ 140737488355328)
    (h : ∀ v1 w1, OwnRow R e size w1 base v1 (ps ++ [p]) → W.grownBy w1 v.ownBlock → (v1.ownBlock = v.ownBlock ∨ ∃ b, v1.ownBlock = some b ∧ W.heap.size ≤ b) → wpListIn F n P ops Q rest (a.put o.dst v1) w1) :
    wpListIn F n P ops Q (o :: rest) a (W.alloc (.cells cs.toArray e)) := by
  obtain ⟨inner, hown, hr⟩ := HO
  obtain ⟨i, hi, h2, h3, h4⟩ : ∃ i, P.info? e = some i ∧ i.zero = some z ∧ i.size = size ∧ i.bytes = bytes := by
    cases hi : P.info? e with
    | none => rw [hi] at hinfo; cases hinfo
    | some i =>
      rw [hi] at hinfo
      simp only [Option.map_some, Option.some.injEq, Prod.mk.injEq] at hinfo
      exact ⟨i, rfl, hinfo.1, hinfo.2.1, hinfo.2.2⟩
  have hown2 : (W.alloc (.cells cs.toArray e)).ownsRow base e size v ps.length inner := own_move hown (fun k hk => Below.heap_alloc _ _ _ (own_lt hown k hk))
  have hll : ps.length + 1 ≤ 140737488355328 := Nat.le_trans (Nat.le_mul_of_pos_right _ hb0) hl
  refine wpListIn_append_own_at _ hgd s x t ho base e i z size bytes ht hi h2 h3 h4 hz hs0 v ps.length inner hs hown2 ⟨W.heap.size, 0, none⟩ 1 1 cs hx (by rw [Nat.one_mul]; exact hcs) (fun j u hu => ?_) h1 (by simp only [maxLen]; omega) hl (by simp; omega) (fun v1 w1 r1 r2 _ r4 => ?_)
  · rw [show ((⟨W.heap.size, 0, none⟩ : Addr).add j) = ⟨W.heap.size, j, none⟩ from by unfold Addr.add; split <;> simp_all]
    rw [cell_blk (heap_alloc_new W (.cells cs.toArray e)) j]
    simpa using hu
  · refine h v1 w1 ⟨inner ++ cs, by rw [List.length_append, List.length_singleton]; exact r1, hr.snoc hp hcs⟩ ⟨r2.os, r2.tape, r2.output, Nat.le_trans (by simp) r2.size, fun k hk hn => ?_⟩ (r4.imp id (fun e => ⟨_, e, by simp⟩))
    rw [r2.block k (by simp; omega) hn, Below.heap_alloc _ _ _ hk]
end
theorem look_runFN {w : World} {mb N : Nat} {D : DataW Unit} {es : List En} (h : w.ownsMap Tryz.prog 9 (plainElem (H := Unit) Tryz.prog 3) mb N D) (hD : Names D es) {s : ByteArray} (hs : s.size ≤ maxLen) (nq : Nat) :
    (Instr.lookup 88 (.map (some mb)) (.string s) false).run Tryz.prog (w.drewN nq) = .ok (.int .i64 (fnd0 es s)) (w.drewN nq) := look_runF (w := w.drewN nq) h hD hs
structure FsJ (w W : World) (tb bt Bx : Nat) (ec fc : Array Value) (v : Value) (l : List Ft) (V : World) : Prop where
  xT : V.heap[w.heap.size]? = some (.cells #[.pointer (some ⟨tb, 0, none⟩)] 25 (0, 0))
  xA : V.heap[bt]? = some (.cells #[.pointer (some ⟨tb, 0, none⟩)] 25 (0, 0))
  out : V.heap[w.heap.size + 1]? = some (.cells #[v] 41 (0, 0))
  row : OwnRow ftR 79 3 V (w.heap.size + 2) v l
  ne : ∀ b, v.ownBlock = some b → b ≠ W.heap.size
  ent : V.heap[Bx]? = some (.cells ec 38 (0, 0))
  flt : V.heap[W.heap.size]? = some (.cells fc 79 (0, 0))
  bel : Below w.heap.size w V
  belW : Below w.heap.size W V
  keep : KeepsOthers W V
  size : W.heap.size < V.heap.size
section
variable {w w0 W V V1 : World} {tb bt Bx : Nat} {ec fc : Array Value} {v v1 : Value} {l l1 : List Ft} {xs : List En} {m : Int} {pre pre' : List AE}
theorem FsJ.start (hI : FsI w w0 tb bt xs m pre W) (hX : W.heap[Bx]? = some (.cells ec 38 (0, 0))) (fc : Array Value) (nq : Nat) : ∃ v, W.heap[w.heap.size + 1]? = some (.cells #[v] 41 (0, 0)) ∧ FsJ w W tb bt Bx ec fc v (cfA xs m pre) ((W.alloc (.cells fc 79)).drewN nq) := by
  obtain ⟨v, hv, inner, ho, hr⟩ := hI.out
  have hk : ∀ k o, W.heap[k]? = some o → ((W.alloc (.cells fc 79)).drewN nq).heap[k]? = some o := fun k o h => (Below.heap_alloc _ _ k (Array.getElem?_eq_some_iff.1 h).1).trans h
  have hb : Below W.heap.size W ((W.alloc (.cells fc 79)).drewN nq) := pw_below_drewN ((Below.refl _ _).alloc (Nat.le_refl _) _) nq
  refine ⟨v, hv, hk _ _ hI.xT, hk _ _ hI.xA, hk _ _ hv, ⟨inner, own_move ho (fun k hk2 => ?_), hr⟩, fun b hb => Nat.ne_of_lt (own_lt ho b hb), hk _ _ hX, World.alloc_heap_new W _, hI.bel.trans (hb.mono hI.bel.size), hb.mono hI.bel.size, ⟨hb.size, fun k o h _ => hk k o h⟩, by show W.heap.size < (W.alloc _).heap.size; simp⟩
  obtain ⟨cells, hc⟩ := own_typed ho k hk2
  rw [hc]; exact hk _ _ hc
theorem FsJ.code (h : FsJ w W tb bt Bx ec fc v l V) (hw : w.heap.size + 1 < W.heap.size) (hbt : bt < W.heap.size) (hBx : Bx < W.heap.size) (c : Value) : FsJ w W tb bt Bx ec (fc.setIfInBounds 2 c) v l (V.setCell ⟨W.heap.size, 2, none⟩ c) := by
  obtain ⟨inner, ho, hr⟩ := h.row
  have hk : ∀ k, k ≠ W.heap.size → (V.setCell ⟨W.heap.size, 2, none⟩ c).heap[k]? = V.heap[k]? := fun k hk => Below.heap_setCell _ _ _ _ hk
  refine ⟨(hk _ (by omega)).trans h.xT, (hk _ (by omega)).trans h.xA, (hk _ (by omega)).trans h.out, ⟨inner, own_move ho (fun k hk2 => hk k (h.ne k hk2)), hr⟩, h.ne, (hk _ (by omega)).trans h.ent, heap_setCell_same h.flt 2 c, h.bel.setCell (p := ⟨W.heap.size, 2, none⟩) (by show w.heap.size ≤ W.heap.size; omega) _, h.belW.setCell (p := ⟨W.heap.size, 2, none⟩) (by show w.heap.size ≤ W.heap.size; omega) _, h.keep.trans (KeepsOthers.setCell _ _ _), by simpa using h.size⟩
theorem FsJ.mid (h : FsJ w W tb bt Bx ec fc v l V) (hg : V.grownBy V1 v.ownBlock) : V1.heap[w.heap.size + 1]? = some (.cells #[v] 41 (0, 0)) ∧ V1.heap[w.heap.size]? = some (.cells #[.pointer (some ⟨tb, 0, none⟩)] 25 (0, 0)) ∧ V1.heap[Bx]? = some (.cells ec 38 (0, 0)) ∧ V1.heap[W.heap.size]? = some (.cells fc 79 (0, 0)) ∧ Below w.heap.size w V1 := by
  obtain ⟨inner, ho, hr⟩ := h.row
  have hk : ∀ k cs T, V.heap[k]? = some (.cells cs T (0, 0)) → some k ≠ v.ownBlock → V1.heap[k]? = some (.cells cs T (0, 0)) := fun k cs T hc hn => (hg.block k (Array.getElem?_eq_some_iff.1 hc).1 hn).trans hc
  have ht : ∀ k cs T, V.heap[k]? = some (.cells cs T (0, 0)) → T ≠ 79 → some k ≠ v.ownBlock := fun k cs T hc hT e => by
    obtain ⟨cells, hcc⟩ := own_typed ho k e.symm
    rw [hc] at hcc; cases hcc; exact hT rfl
  refine ⟨hk _ _ _ h.out (ht _ _ _ h.out (by decide)), hk _ _ _ h.xT (ht _ _ _ h.xT (by decide)), hk _ _ _ h.ent (ht _ _ _ h.ent (by decide)), hk _ _ _ h.flt (fun e => h.ne _ e.symm rfl), h.bel.trans ⟨hg.os, hg.tape, hg.output, hg.size, fun k hk => hg.block k (Nat.lt_of_lt_of_le hk h.bel.size) (fun e => by have := own_base ho k e.symm; omega)⟩⟩
theorem FsJ.app (h : FsJ w W tb bt Bx ec fc v l V) (hw : w.heap.size + 1 < W.heap.size) (hbt : bt ≠ w.heap.size + 1) (hBx : Bx ≠ w.heap.size + 1) (hO : OwnRow ftR 79 3 V1 (w.heap.size + 2) v1 l1) (hg : V.grownBy V1 v.ownBlock) (hat : v1.ownBlock = v.ownBlock ∨ ∃ b, v1.ownBlock = some b ∧ V.heap.size ≤ b) :
    FsJ w W tb bt Bx ec fc v1 l1 (V1.setCell ⟨w.heap.size + 1, 0, none⟩ v1) := by
  obtain ⟨h1, h2, h3, h4, h5⟩ := h.mid hg
  obtain ⟨inner, ho, hr⟩ := h.row
  obtain ⟨inner1, ho1, hr1⟩ := hO
  have hA : V1.heap[bt]? = some (.cells #[.pointer (some ⟨tb, 0, none⟩)] 25 (0, 0)) := (hg.block bt (Array.getElem?_eq_some_iff.1 h.xA).1 (fun e => by
    obtain ⟨cells, hcc⟩ := own_typed ho bt e.symm
    rw [h.xA] at hcc; cases hcc)).trans h.xA
  have hk : ∀ k, k ≠ w.heap.size + 1 → (V1.setCell ⟨w.heap.size + 1, 0, none⟩ v1).heap[k]? = V1.heap[k]? := fun k hk => Below.heap_setCell _ _ _ _ hk
  have hgB : Below w.heap.size V V1 := ⟨hg.os, hg.tape, hg.output, hg.size, fun k hk => hg.block k (Nat.lt_of_lt_of_le hk h.bel.size) (fun e => by have := own_base ho k e.symm; omega)⟩
  refine ⟨(hk _ (by omega)).trans h2, (hk _ hbt).trans hA, one_setCell h1, ⟨inner1, own_move ho1 (fun k hk2 => hk k (by have := own_base ho1 k hk2; omega)), hr1⟩, fun b hb => ?_, (hk _ hBx).trans h3, (hk _ (by omega)).trans h4, h5.setCell (p := ⟨w.heap.size + 1, 0, none⟩) (by show w.heap.size ≤ w.heap.size + 1; omega) _, (h.belW.trans hgB).setCell (p := ⟨w.heap.size + 1, 0, none⟩) (by show w.heap.size ≤ w.heap.size + 1; omega) _, (h.keep.trans (KeepsOthers.of_grownBy hg (fun j o hj hjo => ?_))).trans (KeepsOthers.setCell _ _ _), ?_⟩
  · rcases hat with e | ⟨b2, e, hb2⟩
    · rw [e] at hb; exact h.ne b hb
    · rw [e] at hb; cases hb; have := h.size; omega
  · obtain ⟨cells, hc⟩ := own_typed ho j hj
    rw [hjo] at hc; cases hc; rfl
  · have := hg.size; have := h.size; simp; omega
theorem FsJ.fin (h : FsJ w W tb bt Bx ec fc v (cfA xs m pre') V) (hI : FsI w w0 tb bt xs m pre W) (B : Nat) : KeepsFrom B W V ∧ KpA w.heap.size bt W V ∧ FsI w w0 tb bt xs m pre' V :=
  ⟨h.keep.from B, ⟨h.belW, h.xA.trans hI.xA.symm⟩, ⟨h.xT, h.xA, ⟨v, h.out, h.row⟩, h.bel, by have := h.size; have := hI.size; omega⟩⟩
end
set_option maxHeartbeats 4000000 in
theorem CFaults_calls {w : World} {tb : Nat} {xs : List En} {m : Int} (T : Tab w tb xs m) (hsh : xs.length ≤ 100000) :
    Calls Tryz.prog 12 #[.pointer (some ⟨tb, 0, none⟩)] w fun e w' => ∃ A' c', e = .returned (.slice A' (setF (classFs xs m)).length c') ∧ Kd.C kFt w' A' (setF (classFs xs m)).length (setF (classFs xs m)) ∧ Below w.heap.size w w' := by
  have HT := Lib.hid T
  obtain ⟨⟨A, c, mb, N, D, g0, g1, g2, g3, g4, g5⟩, -⟩ := T
  have htb := cell_block g0
  refine (callsIn_wide (n := 3)).1 ?_
  refine callsIn_of_wp_marks Tryz.func12 rfl trivial ?_ rfl
  simp only [Tryz.ntmps12, List.size_toArray, List.length_cons, List.length_nil, Nat.reduceAdd, Nat.reduceSub, Array.replicate_succ, Array.replicate_zero, List.push_toArray, List.append_toArray, List.nil_append, List.cons_append]
  refine wpIn_wide.2 ?_
  have h2 : ((w.alloc (.cells #[.pointer (some ⟨tb, 0, none⟩)] 25)).alloc (.cells #[.slice none 0 0] 41)).cell? ⟨tb, 2, none⟩ = some (.int .i64 m) := cell_later (((Below.refl _ _).alloc (Nat.le_refl _) _).alloc (by simp) _) g2
  by_cases hm : m < 0
  · have HO0 := Lib.hid (OwnRow.none_ ftR 79 3 ((w.alloc (.cells #[.pointer (some ⟨tb, 0, none⟩)] 25)).alloc (.cells #[.slice none 0 0] 41)) (w.heap.size + 2))
    have HX0 := Lib.hid (show ((w.alloc (.cells #[.pointer (some ⟨tb, 0, none⟩)] 25)).alloc (.cells #[.slice none 0 0] 41)).heap[w.heap.size + 1]? = some (.cells #[.slice none 0 0] 41 (0, 0)) by
      have := heap_alloc_new (w.alloc (.cells #[.pointer (some ⟨tb, 0, none⟩)] 25)) (.cells #[.slice none 0 0] 41); rwa [World.size_alloc] at this)
    have HT0 := Lib.hid (show ((w.alloc (.cells #[.pointer (some ⟨tb, 0, none⟩)] 25)).alloc (.cells #[.slice none 0 0] 41)).heap[w.heap.size]? = some (.cells #[.pointer (some ⟨tb, 0, none⟩)] 25 (0, 0)) by
      rw [Below.heap_alloc _ _ _ (by simp)]; exact heap_alloc_new w _)
    clear g0 g1 g3
    go_wp2_with (at_builtin; refine OwnRow.append (R := ftR) (w0 := (w.alloc (.cells #[.pointer (some ⟨tb, 0, none⟩)] 25)).alloc (.cells #[.slice none 0 0] 41)) (w.heap.size + 2) rfl (.tmp 14) (.tmp 16) 41 79 (.agg #[.int .i64 0, .int .i64 0, .int .i64 0]) 3 24 rfl (by kernel_rfl) (by kernel_rfl) rfl (by decide) (by decide) (.slice none 0 0) [] ⟨0, 0, 9⟩ [.int .i64 0, .int .i64 0, .int .i64 9] rfl (by rw [World.size_alloc, World.size_alloc]; rfl) rfl rfl (by simp [Value.oneCell']) HO0.out (Below.refl _ _) (by simp) (by decide) ?_; intro v5 w5 hO5 hB5 hg5 hat5; have hx5 := (hg5.block (w.heap.size + 1) (by simp) (fun e => by cases e)).trans HX0.out; have hxT5 := (hg5.block w.heap.size (by simp; omega) (fun e => by cases e)).trans HT0.out; have yT5 := (cell_blk hxT5 0).trans rfl; have y5 := (cell_blk hx5 0).trans rfl; have f5 := frozen_blk hx5 0; obtain ⟨A5, c5, e5, -⟩ := hO5.slice_; subst e5)
    refine (All_tbl_calls _).mono ?_
    rintro e w1 ⟨rfl, hw1⟩
    have hsz5 : w.heap.size + 2 ≤ w5.heap.size := by have := hg5.size; simpa using this
    have hI1 : FsI w w1 tb w5.heap.size xs m [] w1 := by
      have hO6 : OwnRow ftR 79 3 ((w5.setCell ⟨w.heap.size + 1, 0, none⟩ (.slice A5 1 c5)).alloc (.cells #[.pointer (some ⟨tb, 0, none⟩)] 25)) (w.heap.size + 2) (.slice A5 1 c5) (cfA xs m []) := by
        have e : cfA xs m [] = [⟨0, 0, 9⟩] := by unfold cfA cf0; rw [if_pos (by omega)]; rfl
        rw [e]
        obtain ⟨inner, ho, hr⟩ := hO5
        refine ⟨inner, own_move ho (fun k hk => ?_), hr⟩
        have hb := own_base ho k hk
        have hlt := own_lt ho k hk
        rw [Below.heap_alloc _ _ _ (by simpa using hlt)]
        exact Below.heap_setCell _ _ _ _ (by show k ≠ w.heap.size + 1; omega)
      rw [hw1]
      refine ⟨?_, ?_, ⟨_, ?_, hO6⟩, ?_, Nat.le_refl _⟩
      · rw [Below.heap_alloc _ _ _ (by simp; omega), Below.heap_setCell _ _ _ _ (by simp)]; exact hxT5
      · have := heap_alloc_new (w5.setCell ⟨w.heap.size + 1, 0, none⟩ (.slice A5 1 c5)) (.cells #[.pointer (some ⟨tb, 0, none⟩)] 25); simpa using this
      · rw [Below.heap_alloc _ _ _ (by simp; omega)]; exact one_setCell hx5
      · exact ((((((Below.refl w.heap.size w).alloc (Nat.le_refl _) _).alloc (by simp) _).trans ⟨hg5.os, hg5.tape, hg5.output, hg5.size, fun k hk => hg5.block k (by simp; omega) (fun e => by cases e)⟩).setCell (p := ⟨w.heap.size + 1, 0, none⟩) (by show w.heap.size ≤ w.heap.size + 1; omega) _).alloc (by simp; omega) _)
    have HI1 := Lib.hid hI1
    have hs1 : w5.heap.size < w1.heap.size := by rw [hw1]; simp
    have hTW : ∀ W', Below w.heap.size w1 W' → Tab W' tb xs m := fun W' h => HT.out.later (HI1.out.bel.trans h)
    clear hI1 hw1
    go_wp2_with fail
    refine (wpIn_wide (n := 3)).1 ?_
    refine wpIn_rangeFunc_ownH (F := Fence.wide) (n := 3) (w := w1) (w0 := w1) rfl (by decide) (gf := 30) (lb := #[.pointer (some ⟨w5.heap.size, 0, none⟩)]) rfl trivial (enters_of Tryz.func30 (by kernel_rfl) rfl)
      (all_stops (n := 2) (by decide) (n₀ := w.heap.size) (by omega) hTW HI1.out.xA) (fun h k => h.trans k) (fun W l o o' hl _ _ _ => ⟨below_putObj (Below.refl _ _) (by omega) _, World.putObj_heap_other (by omega)⟩) (Below.refl _ _) (fun _ => rfl)
      (FsI w w1 tb w5.heap.size xs m) (fun _ _ _ => False) (fsi_own (by omega)) (fun _ _ _ _ _ hs _ _ => hs) HI1.out
      (fun x a' W => ∃ Bx, w1.heap.size ≤ Bx ∧ W.heap[Bx]? = some (.cells (eCells x.x x.A6 x.c6 x.A7 x.c7 x.A10 x.c10) 38 (0, 0)) ∧ a' = { tmps := #[.pointer (some ⟨tb, 0, none⟩), .pointer (some ⟨w.heap.size, 0, none⟩), .slice none 0 0, .pointer (some ⟨w.heap.size + 1, 0, none⟩), .int .i64 x.j, .pointer (some ⟨Bx, 0, none⟩), undef, .pointer (some ⟨tb, 0, none⟩), .bool false, .pointer (some ⟨tb, 0, none⟩), .pointer (some ⟨tb, 0, none⟩), .pointer (some ⟨tb, 2, none⟩), .int .i64 m, .bool true, .slice none 0 0, .agg #[.int .i64 0, .int .i64 0, .int .i64 9], .slice (some ⟨w.heap.size + 1 + 1, 0, none⟩) 1 1, .slice A5 1 c5, .pointer (some ⟨tb, 0, none⟩), .func (.func 30) #[] #[.pointer (some ⟨w5.heap.size, 0, none⟩)], .int .i64 x.j, .agg (eCells x.x x.A6 x.c6 x.A7 x.c7 x.A10 x.c10), undef, undef, undef, undef, undef, undef, undef, undef, undef, undef, undef, undef, undef, undef, undef, undef, undef, undef, undef, undef, undef, undef, undef, undef, undef, undef, undef, undef, undef, undef, undef, undef, undef, undef, undef, undef, undef, undef, undef, undef, undef], defers := [] })
      ?hax ?assign ?body ?done ?stop
    case hax =>
      intro x a'
      rintro _ W W' row ⟨Bx, h1, h2, h3⟩ hg hr
      exact ⟨Bx, h1, cells_kept hg hr h2, h3⟩
    case assign =>
      rintro l pre x W K hi hK
      gi_wp2
      exact hK _ _ ((KeepsOthers.alloc _ _).from _) ⟨(Below.refl _ W).alloc (by have := hi.size; omega) _, Below.heap_alloc _ _ _ (Array.getElem?_eq_some_iff.1 hi.xA).1⟩ ((fsi_own (by omega)).alloc _ hi) ⟨W.heap.size, hi.size, World.alloc_heap_new _ _, rfl⟩
    case body =>
      rintro l pre x a' W hl ⟨r, hr⟩ hI ⟨Bx, hBx, hX, rfl⟩ hlt
      have hsz := hI.size
      have hbw : w.heap.size + 1 < W.heap.size := by omega
      have hbtW : w5.heap.size < W.heap.size := by omega
      have hBl : Bx < W.heap.size := (Array.getElem?_eq_some_iff.1 hX).1
      have x0 := (cell_blk hX 0).trans rfl
      have x3 := (cell_blk hX 3).trans rfl
      obtain ⟨⟨A9, c9, mb9, N9, D9, -, t1, -, -, t4, t5⟩, -⟩ := HT.out.later hI.bel
      have HII := Lib.hid hI
      have HXX := Lib.hid hX
      have hle := cfA_le xs m pre
      have hnm := x.hs.1
      obtain ⟨w3, hw3⟩ : ∃ w3, w3 = W.alloc (.cells #[.int .i64 x.x.file, .int .i64 x.x.cls.name.pos, .int .i64 0] 79) := ⟨_, rfl⟩
      have hB3 : Below W.heap.size W w3 := by rw [hw3]; exact (Below.refl _ _).alloc (Nat.le_refl _) _
      have yT := (cell_blk ((hB3.block _ (by omega)).trans hI.xT) 0).trans rfl
      have yM := cell_later hB3 t1
      have yN := (cell_blk ((hB3.block _ hBl).trans hX) 2).trans rfl
      obtain ⟨d0, hdd⟩ : ∃ d0, d0 = fnd0 xs x.x.cls.name.text := ⟨_, rfl⟩
      have hlk := fun nq => look_runFN (w := w3) (by rw [hw3]; exact t4.alloc _) t5 hnm nq
      rw [← hdd] at hlk
      clear hI hX t1 t4 t5 hr hB3
      have HDD := Lib.hid hdd
      gi_wp2
      rw [← hw3]
      have HW3 := Lib.hid hw3
      clear hw3 hdd
      refine region_quiet_round (by kernel_rfl) (by kernel_rfl) (by kernel_rfl) ?_
      repeat (gi_big_quiet_step (fail))
      refine wpQuietIn_nil ?_
      intro _ hw'
      obtain ⟨nq, hw''⟩ := hw'
      subst hw''
      obtain ⟨v, hv, hJ⟩ := FsJ.start HII.out HXX.out #[.int .i64 x.x.file, .int .i64 x.x.cls.name.pos, .int .i64 0] nq
      rw [← HW3.out] at hJ
      obtain ⟨V, hV⟩ : ∃ V, V = w3.drewN nq := ⟨_, rfl⟩
      rw [← hV] at hJ ⊢
      have o0 := (cell_blk hJ.out 0).trans rfl
      have fo := frozen_blk hJ.out 0
      have tT := (cell_blk hJ.xT 0).trans rfl
      have eM : V.cell? ⟨Bx, 1, none⟩ = some (.bool x.x.cls.main) := (cell_blk hJ.ent 1).trans rfl
      have q0 := (cell_blk hJ.flt 0).trans rfl
      have q1 := (cell_blk hJ.flt 1).trans rfl
      have q2 := (cell_blk hJ.flt 2).trans rfl
      have fq := frozen_blk hJ.flt 2
      have tM := (World.cell?_of_block (a := ⟨tb, 2, none⟩) (hJ.bel.block tb htb)).trans g2
      have HJ := Lib.hid hJ
      obtain ⟨Av, cv, ev, -⟩ := hJ.row.slice_
      obtain ⟨nv, hnv⟩ : ∃ q, q = (cfA xs m pre).length := ⟨_, rfl⟩
      rw [← hnv] at ev
      clear hnv
      clear hV hJ hv x0 x3 yT yM yN hlk
      subst ev
      have hmm : x.x.cls.main = false ∨ (x.x.cls.main = true ∧ m = x.j) ∨ (x.x.cls.main = true ∧ m ≠ x.j) := by cases x.x.cls.main <;> simp; omega
      by_cases hd : d0 = x.j
      · skip
        have hd1 : (d0 != x.j) = false := by simpa using hd
        have HD1 := Lib.hid hd
        clear hd
        rcases hmm with hmm | ⟨hmm, hmj⟩ | ⟨hmm, hmj⟩
        · have HM := Lib.hid hmm
          clear hmm
          rw [HM.out] at eM
          have HF := Lib.hid (show cfA xs m (pre ++ [x]) = cfA xs m pre by rw [cfA_snoc]; unfold cfOf AE.key; simp only; rw [← HDD.out, if_pos HD1.out, if_neg (fun h => by have := HM.out; rw [this] at h; cases h.1)]; simp)
          gi_wp2
          have hfin := HJ.out
          rw [← HF.out] at hfin
          exact hfin.fin HII.out _
        · have HM := Lib.hid hmm
          have HMJ := Lib.hid hmj
          have hmj1 : (m != x.j) = false := by simpa using hmj
          clear hmm hmj
          rw [HM.out] at eM
          have HF := Lib.hid (show cfA xs m (pre ++ [x]) = cfA xs m pre by rw [cfA_snoc]; unfold cfOf AE.key; simp only; rw [← HDD.out, if_pos HD1.out, if_neg (fun h => h.2 HMJ.out)]; simp)
          gi_wp2
          have hfin := HJ.out
          rw [← HF.out] at hfin
          exact hfin.fin HII.out _
        · have HM := Lib.hid hmm
          have HMJ := Lib.hid hmj
          have hmj1 : (m != x.j) = true := by simpa using hmj
          clear hmm hmj
          rw [HM.out] at eM
          have HF := Lib.hid (show cfA xs m (pre ++ [x]) = cfA xs m pre ++ [⟨x.x.file, x.x.cls.name.pos, 9⟩] by rw [cfA_snoc]; unfold cfOf AE.key; simp only; rw [← HDD.out, if_pos HD1.out, if_pos ⟨HM.out, HMJ.out⟩]; simp)
          have HJd := Lib.hid (HJ.out.code hbw hbtW hBl (.int .i64 9))
          gi_wp2_with (gi_at_builtin; refine OwnRow.appendAt (R := ftR) (w.heap.size + 2) rfl (.tmp 57) (.tmp 59) 41 79 (.agg #[.int .i64 0, .int .i64 0, .int .i64 0]) 3 24 rfl (by kernel_rfl) (by kernel_rfl) rfl (by decide) (by decide) (.slice Av nv cv) (cfA xs m pre) ⟨x.x.file, x.x.cls.name.pos, 9⟩ [.int .i64 x.x.file, .int .i64 x.x.cls.name.pos, .int .i64 9] rfl (by rw [World.size_setCell]; first | rfl | (rw [World.size_setCell]; rfl)) rfl rfl (by simp [Value.oneCell']) HJd.out.row (by have := HJd.out.size; omega) (by first | omega | (simp only [List.length_append, List.length_singleton]; omega)) ?_; intro v2 V2 hO2 hg2 hat2; have J2m := HJd.out.mid hg2; have o2 := (cell_blk J2m.1 0).trans rfl; have fo2 := frozen_blk J2m.1 0; have tT2 := (cell_blk J2m.2.1 0).trans rfl; have eM2 : V2.cell? ⟨Bx, 1, none⟩ = some (.bool x.x.cls.main) := (cell_blk J2m.2.2.1 1).trans rfl; rw [HM.out] at eM2; have q02 := (cell_blk J2m.2.2.2.1 0).trans rfl; have q12 := (cell_blk J2m.2.2.2.1 1).trans rfl; have q22 := (cell_blk J2m.2.2.2.1 2).trans rfl; have fq2 := frozen_blk J2m.2.2.2.1 2; have tM2 := (World.cell?_of_block (a := ⟨tb, 2, none⟩) (J2m.2.2.2.2.block tb htb)).trans g2; have HJ2 := Lib.hid (HJd.out.app hbw (by omega) (by omega) hO2 hg2 hat2); (obtain ⟨A2, c2, e2, -⟩ := hO2.slice_); (obtain ⟨n2, hn2⟩ : ∃ q, q = (cfA xs m pre ++ [(⟨x.x.file, x.x.cls.name.pos, 9⟩ : Ft)]).length := ⟨_, rfl⟩); rw [← hn2] at e2; clear hn2 hO2 hg2 hat2 J2m; subst e2)
          have hfin := HJ2.out
          rw [← HF.out] at hfin
          exact hfin.fin HII.out _
      · skip
        have hd1 : (d0 != x.j) = true := by simpa using hd
        have HD1 := Lib.hid hd
        clear hd
        rcases hmm with hmm | ⟨hmm, hmj⟩ | ⟨hmm, hmj⟩
        · have HM := Lib.hid hmm
          clear hmm
          rw [HM.out] at eM
          have HF := Lib.hid (show cfA xs m (pre ++ [x]) = cfA xs m pre ++ [⟨x.x.file, x.x.cls.name.pos, 6⟩] by rw [cfA_snoc]; unfold cfOf AE.key; simp only; rw [← HDD.out, if_neg HD1.out, if_neg (fun h => by have := HM.out; rw [this] at h; cases h.1)]; simp)
          have HJc := Lib.hid (HJ.out.code hbw hbtW hBl (.int .i64 6))
          gi_wp2_with (gi_at_builtin; refine OwnRow.appendAt (R := ftR) (w.heap.size + 2) rfl (.tmp 41) (.tmp 43) 41 79 (.agg #[.int .i64 0, .int .i64 0, .int .i64 0]) 3 24 rfl (by kernel_rfl) (by kernel_rfl) rfl (by decide) (by decide) (.slice Av nv cv) (cfA xs m pre) ⟨x.x.file, x.x.cls.name.pos, 6⟩ [.int .i64 x.x.file, .int .i64 x.x.cls.name.pos, .int .i64 6] rfl (by rw [World.size_setCell]; first | rfl | (rw [World.size_setCell]; rfl)) rfl rfl (by simp [Value.oneCell']) HJc.out.row (by have := HJc.out.size; omega) (by first | omega | (simp only [List.length_append, List.length_singleton]; omega)) ?_; intro v1 V1 hO1 hg1 hat1; have J1m := HJc.out.mid hg1; have o1 := (cell_blk J1m.1 0).trans rfl; have fo1 := frozen_blk J1m.1 0; have tT1 := (cell_blk J1m.2.1 0).trans rfl; have eM1 : V1.cell? ⟨Bx, 1, none⟩ = some (.bool x.x.cls.main) := (cell_blk J1m.2.2.1 1).trans rfl; rw [HM.out] at eM1; have q01 := (cell_blk J1m.2.2.2.1 0).trans rfl; have q11 := (cell_blk J1m.2.2.2.1 1).trans rfl; have q21 := (cell_blk J1m.2.2.2.1 2).trans rfl; have fq1 := frozen_blk J1m.2.2.2.1 2; have tM1 := (World.cell?_of_block (a := ⟨tb, 2, none⟩) (J1m.2.2.2.2.block tb htb)).trans g2; have HJ1 := Lib.hid (HJc.out.app hbw (by omega) (by omega) hO1 hg1 hat1); (obtain ⟨A1, c1, e1, -⟩ := hO1.slice_); (obtain ⟨n1, hn1⟩ : ∃ q, q = (cfA xs m pre ++ [(⟨x.x.file, x.x.cls.name.pos, 6⟩ : Ft)]).length := ⟨_, rfl⟩); rw [← hn1] at e1; clear hn1 hO1 hg1 hat1 J1m; subst e1)
          have hfin := HJ1.out
          rw [← HF.out] at hfin
          exact hfin.fin HII.out _
        · have HM := Lib.hid hmm
          have HMJ := Lib.hid hmj
          have hmj1 : (m != x.j) = false := by simpa using hmj
          clear hmm hmj
          rw [HM.out] at eM
          have HF := Lib.hid (show cfA xs m (pre ++ [x]) = cfA xs m pre ++ [⟨x.x.file, x.x.cls.name.pos, 6⟩] by rw [cfA_snoc]; unfold cfOf AE.key; simp only; rw [← HDD.out, if_neg HD1.out, if_neg (fun h => h.2 HMJ.out)]; simp)
          have HJc := Lib.hid (HJ.out.code hbw hbtW hBl (.int .i64 6))
          gi_wp2_with (gi_at_builtin; refine OwnRow.appendAt (R := ftR) (w.heap.size + 2) rfl (.tmp 41) (.tmp 43) 41 79 (.agg #[.int .i64 0, .int .i64 0, .int .i64 0]) 3 24 rfl (by kernel_rfl) (by kernel_rfl) rfl (by decide) (by decide) (.slice Av nv cv) (cfA xs m pre) ⟨x.x.file, x.x.cls.name.pos, 6⟩ [.int .i64 x.x.file, .int .i64 x.x.cls.name.pos, .int .i64 6] rfl (by rw [World.size_setCell]; first | rfl | (rw [World.size_setCell]; rfl)) rfl rfl (by simp [Value.oneCell']) HJc.out.row (by have := HJc.out.size; omega) (by first | omega | (simp only [List.length_append, List.length_singleton]; omega)) ?_; intro v1 V1 hO1 hg1 hat1; have J1m := HJc.out.mid hg1; have o1 := (cell_blk J1m.1 0).trans rfl; have fo1 := frozen_blk J1m.1 0; have tT1 := (cell_blk J1m.2.1 0).trans rfl; have eM1 : V1.cell? ⟨Bx, 1, none⟩ = some (.bool x.x.cls.main) := (cell_blk J1m.2.2.1 1).trans rfl; rw [HM.out] at eM1; have q01 := (cell_blk J1m.2.2.2.1 0).trans rfl; have q11 := (cell_blk J1m.2.2.2.1 1).trans rfl; have q21 := (cell_blk J1m.2.2.2.1 2).trans rfl; have fq1 := frozen_blk J1m.2.2.2.1 2; have tM1 := (World.cell?_of_block (a := ⟨tb, 2, none⟩) (J1m.2.2.2.2.block tb htb)).trans g2; have HJ1 := Lib.hid (HJc.out.app hbw (by omega) (by omega) hO1 hg1 hat1); (obtain ⟨A1, c1, e1, -⟩ := hO1.slice_); (obtain ⟨n1, hn1⟩ : ∃ q, q = (cfA xs m pre ++ [(⟨x.x.file, x.x.cls.name.pos, 6⟩ : Ft)]).length := ⟨_, rfl⟩); rw [← hn1] at e1; clear hn1 hO1 hg1 hat1 J1m; subst e1)
          have hfin := HJ1.out
          rw [← HF.out] at hfin
          exact hfin.fin HII.out _
        · have HM := Lib.hid hmm
          have HMJ := Lib.hid hmj
          have hmj1 : (m != x.j) = true := by simpa using hmj
          clear hmm hmj
          rw [HM.out] at eM
          have HF := Lib.hid (show cfA xs m (pre ++ [x]) = cfA xs m pre ++ [⟨x.x.file, x.x.cls.name.pos, 6⟩] ++ [⟨x.x.file, x.x.cls.name.pos, 9⟩] by rw [cfA_snoc]; unfold cfOf AE.key; simp only; rw [← HDD.out, if_neg HD1.out, if_pos ⟨HM.out, HMJ.out⟩]; simp)
          have HJc := Lib.hid (HJ.out.code hbw hbtW hBl (.int .i64 6))
          gi_wp2_with (first | (gi_at_builtin; refine OwnRow.appendAt (R := ftR) (w.heap.size + 2) rfl (.tmp 41) (.tmp 43) 41 79 (.agg #[.int .i64 0, .int .i64 0, .int .i64 0]) 3 24 rfl (by kernel_rfl) (by kernel_rfl) rfl (by decide) (by decide) (.slice Av nv cv) (cfA xs m pre) ⟨x.x.file, x.x.cls.name.pos, 6⟩ [.int .i64 x.x.file, .int .i64 x.x.cls.name.pos, .int .i64 6] rfl (by rw [World.size_setCell]; first | rfl | (rw [World.size_setCell]; rfl)) rfl rfl (by simp [Value.oneCell']) HJc.out.row (by have := HJc.out.size; omega) (by first | omega | (simp only [List.length_append, List.length_singleton]; omega)) ?_; intro v1 V1 hO1 hg1 hat1; have J1m := HJc.out.mid hg1; have o1 := (cell_blk J1m.1 0).trans rfl; have fo1 := frozen_blk J1m.1 0; have tT1 := (cell_blk J1m.2.1 0).trans rfl; have eM1 : V1.cell? ⟨Bx, 1, none⟩ = some (.bool x.x.cls.main) := (cell_blk J1m.2.2.1 1).trans rfl; rw [HM.out] at eM1; have q01 := (cell_blk J1m.2.2.2.1 0).trans rfl; have q11 := (cell_blk J1m.2.2.2.1 1).trans rfl; have q21 := (cell_blk J1m.2.2.2.1 2).trans rfl; have fq1 := frozen_blk J1m.2.2.2.1 2; have tM1 := (World.cell?_of_block (a := ⟨tb, 2, none⟩) (J1m.2.2.2.2.block tb htb)).trans g2; have HJ1 := Lib.hid (HJc.out.app hbw (by omega) (by omega) hO1 hg1 hat1); (obtain ⟨A1, c1, e1, -⟩ := hO1.slice_); (obtain ⟨n1, hn1⟩ : ∃ q, q = (cfA xs m pre ++ [(⟨x.x.file, x.x.cls.name.pos, 6⟩ : Ft)]).length := ⟨_, rfl⟩); rw [← hn1] at e1; clear hn1 hO1 hg1 hat1 J1m; subst e1) | (gi_at_builtin; have HJd := Lib.hid (HJ1.out.code hbw hbtW hBl (.int .i64 9)); refine OwnRow.appendAt (R := ftR) (w.heap.size + 2) rfl (.tmp 57) (.tmp 59) 41 79 (.agg #[.int .i64 0, .int .i64 0, .int .i64 0]) 3 24 rfl (by kernel_rfl) (by kernel_rfl) rfl (by decide) (by decide) (.slice A1 n1 c1) (cfA xs m pre ++ [(⟨x.x.file, x.x.cls.name.pos, 6⟩ : Ft)]) ⟨x.x.file, x.x.cls.name.pos, 9⟩ [.int .i64 x.x.file, .int .i64 x.x.cls.name.pos, .int .i64 9] rfl (by rw [World.size_setCell]; first | rfl | (rw [World.size_setCell]; rfl)) rfl rfl (by simp [Value.oneCell']) HJd.out.row (by have := HJd.out.size; omega) (by first | omega | (simp only [List.length_append, List.length_singleton]; omega)) ?_; intro v2 V2 hO2 hg2 hat2; have J2m := HJd.out.mid hg2; have o2 := (cell_blk J2m.1 0).trans rfl; have fo2 := frozen_blk J2m.1 0; have tT2 := (cell_blk J2m.2.1 0).trans rfl; have eM2 : V2.cell? ⟨Bx, 1, none⟩ = some (.bool x.x.cls.main) := (cell_blk J2m.2.2.1 1).trans rfl; rw [HM.out] at eM2; have q02 := (cell_blk J2m.2.2.2.1 0).trans rfl; have q12 := (cell_blk J2m.2.2.2.1 1).trans rfl; have q22 := (cell_blk J2m.2.2.2.1 2).trans rfl; have fq2 := frozen_blk J2m.2.2.2.1 2; have tM2 := (World.cell?_of_block (a := ⟨tb, 2, none⟩) (J2m.2.2.2.2.block tb htb)).trans g2; have HJ2 := Lib.hid (HJd.out.app hbw (by omega) (by omega) hO2 hg2 hat2); (obtain ⟨A2, c2, e2, -⟩ := hO2.slice_); (obtain ⟨n2, hn2⟩ : ∃ q, q = (cfA xs m pre ++ [(⟨x.x.file, x.x.cls.name.pos, 6⟩ : Ft)] ++ [(⟨x.x.file, x.x.cls.name.pos, 9⟩ : Ft)]).length := ⟨_, rfl⟩); rw [← hn2] at e2; clear hn2 hO2 hg2 hat2 J2m; subst e2))
          have hfin := HJ2.out
          rw [← HF.out] at hfin
          exact hfin.fin HII.out _
    case done =>
      rintro D ys W hD hys hI hK
      obtain ⟨v, h5, hrow⟩ := hI.out
      have hEq : cfA xs m ys = classFs xs m := by unfold cfA classFs; rw [hys]
      have hlen : (classFs xs m).length ≤ 1000000 := by
        have h1 := cfA_le xs m ys
        have h2 : ys.length = xs.length := by have := congrArg List.length hys; rw [List.length_map, sees_len] at this; exact this
        rw [← hEq]; omega
      rw [hEq] at hrow
      have o0 := (cell_blk h5 0).trans rfl
      obtain ⟨A0, cc, rfl, hlc, hC⟩ := OwnRow.reads (R := kFt.K W) (hrow.imp_ (fun x cs hp => by rw [show cs = cFt x from hp]; exact kFt_mk W x))
      obtain ⟨q, hq⟩ : ∃ q, q = (classFs xs m).length := ⟨_, rfl⟩
      rw [← hq] at o0
      have HQ := Lib.hid hq
      have HC := Lib.hid (Sorted_calls (c := cc) hC hlen)
      rw [← hq] at HC
      have HII := Lib.hid hI
      have HKD := Lib.hid hK
      have HD := Lib.hid hD
      clear hI h5 hrow hq hK hD hC hlc hlen
      gi_wp2_with fail
      go_wp2_with fail
      refine HC.out.mono ?_
      rintro e w6 ⟨A', c', rfl, hC', hB'⟩
      have hDl : D < W.heap.size := (Array.getElem?_eq_some_iff.1 HKD.out).1
      have hK6 := (hB'.block D hDl).trans HKD.out
      have HC6 := Lib.hid hC'
      have HB6 := Lib.hid hB'
      obtain ⟨q6, hq6⟩ : ∃ q, q = (setF (classFs xs m)).length := ⟨_, rfl⟩
      rw [← hq6]
      have HQ6 := Lib.hid hq6
      have HK6 := Lib.hid hK6
      clear hq6 hC' hB' hK6 o0
      go_wp2_with fail
      refine ⟨by simp, .inl ⟨_, _, rfl, run_takeDeferred HK6.out, ?_⟩⟩
      have hDD := HD.out
      refine ⟨_, results_tmp Tryz.results12 _ _ _, A', c', ?_, ?_, ?_⟩
      · show Ending.returned (Value.slice A' q6 c') = _
        rw [HQ6.out]
      · exact up_C up_kFt (sub_putObj HK6.out _) HC6.out
      · exact below_putObj (HII.out.bel.trans (HB6.out.mono (by have := HII.out.bel.size; omega))) (by omega) _
    case stop =>
      rintro D c pre W hD hpre hI hK
      exact hI.elim
  · have hm0 : 0 ≤ m := by omega
    clear g0 g1 g3
    go_wp2_with fail
    refine (All_tbl_calls _).mono ?_
    rintro e w1 ⟨rfl, hw1⟩
    have hI1 : FsI w w1 tb (w.heap.size + 1 + 1) xs m [] w1 := by
      rw [hw1]
      refine ⟨?_, ?_, ⟨.slice none 0 0, ?_, ?_⟩, ?_, Nat.le_refl _⟩
      · rw [Below.heap_alloc _ _ _ (by simp; omega), Below.heap_alloc _ _ _ (by simp)]; exact heap_alloc_new w _
      · have := heap_alloc_new ((w.alloc (.cells #[.pointer (some ⟨tb, 0, none⟩)] 25)).alloc (.cells #[.slice none 0 0] 41)) (.cells #[.pointer (some ⟨tb, 0, none⟩)] 25); simpa using this
      · rw [Below.heap_alloc _ _ _ (by simp)]; have := heap_alloc_new (w.alloc (.cells #[.pointer (some ⟨tb, 0, none⟩)] 25)) (.cells #[.slice none 0 0] 41); simpa using this
      · have e : cfA xs m [] = [] := by unfold cfA cf0; rw [if_neg (by omega)]; rfl
        rw [e]; exact OwnRow.none_ _ _ _ _ _
      · exact (((Below.refl _ w).alloc (Nat.le_refl _) _).alloc (by simp) _).alloc (by simp; omega) _
    have HI1 := Lib.hid hI1
    have hs1 : w.heap.size + 1 + 1 < w1.heap.size := by rw [hw1]; simp
    have hTW : ∀ W', Below w.heap.size w1 W' → Tab W' tb xs m := fun W' h => HT.out.later (HI1.out.bel.trans h)
    clear hI1 hw1
    go_wp2_with fail
    refine (wpIn_wide (n := 3)).1 ?_
    refine wpIn_rangeFunc_ownH (F := Fence.wide) (n := 3) (w := w1) (w0 := w1) rfl (by decide) (gf := 30) (lb := #[.pointer (some ⟨(w.heap.size + 1 + 1), 0, none⟩)]) rfl trivial (enters_of Tryz.func30 (by kernel_rfl) rfl)
      (all_stops (n := 2) (by decide) (n₀ := w.heap.size) (by omega) hTW HI1.out.xA) (fun h k => h.trans k) (fun W l o o' hl _ _ _ => ⟨below_putObj (Below.refl _ _) (by omega) _, World.putObj_heap_other (by omega)⟩) (Below.refl _ _) (fun _ => rfl)
      (FsI w w1 tb (w.heap.size + 1 + 1) xs m) (fun _ _ _ => False) (fsi_own (by omega)) (fun _ _ _ _ _ hs _ _ => hs) HI1.out
      (fun x a' W => ∃ Bx, w1.heap.size ≤ Bx ∧ W.heap[Bx]? = some (.cells (eCells x.x x.A6 x.c6 x.A7 x.c7 x.A10 x.c10) 38 (0, 0)) ∧ a' = { tmps := #[.pointer (some ⟨tb, 0, none⟩), .pointer (some ⟨w.heap.size, 0, none⟩), .slice none 0 0, .pointer (some ⟨w.heap.size + 1, 0, none⟩), .int .i64 x.j, .pointer (some ⟨Bx, 0, none⟩), undef, .pointer (some ⟨tb, 0, none⟩), .bool false, .pointer (some ⟨tb, 0, none⟩), .pointer (some ⟨tb, 0, none⟩), .pointer (some ⟨tb, 2, none⟩), .int .i64 m, .bool false, undef, undef, undef, undef, .pointer (some ⟨tb, 0, none⟩), .func (.func 30) #[] #[.pointer (some ⟨(w.heap.size + 1 + 1), 0, none⟩)], .int .i64 x.j, .agg (eCells x.x x.A6 x.c6 x.A7 x.c7 x.A10 x.c10), undef, undef, undef, undef, undef, undef, undef, undef, undef, undef, undef, undef, undef, undef, undef, undef, undef, undef, undef, undef, undef, undef, undef, undef, undef, undef, undef, undef, undef, undef, undef, undef, undef, undef, undef, undef, undef, undef, undef, undef, undef], defers := [] })
      ?hax ?assign ?body ?done ?stop
    case hax =>
      intro x a'
      rintro _ W W' row ⟨Bx, h1, h2, h3⟩ hg hr
      exact ⟨Bx, h1, cells_kept hg hr h2, h3⟩
    case assign =>
      rintro l pre x W K hi hK
      gi_wp2
      exact hK _ _ ((KeepsOthers.alloc _ _).from _) ⟨(Below.refl _ W).alloc (by have := hi.size; omega) _, Below.heap_alloc _ _ _ (Array.getElem?_eq_some_iff.1 hi.xA).1⟩ ((fsi_own (by omega)).alloc _ hi) ⟨W.heap.size, hi.size, World.alloc_heap_new _ _, rfl⟩
    case body =>
      rintro l pre x a' W hl ⟨r, hr⟩ hI ⟨Bx, hBx, hX, rfl⟩ hlt
      have hsz := hI.size
      have hbw : w.heap.size + 1 < W.heap.size := by omega
      have hbtW : (w.heap.size + 1 + 1) < W.heap.size := by omega
      have hBl : Bx < W.heap.size := (Array.getElem?_eq_some_iff.1 hX).1
      have x0 := (cell_blk hX 0).trans rfl
      have x3 := (cell_blk hX 3).trans rfl
      obtain ⟨⟨A9, c9, mb9, N9, D9, -, t1, -, -, t4, t5⟩, -⟩ := HT.out.later hI.bel
      have HII := Lib.hid hI
      have HXX := Lib.hid hX
      have hle := cfA_le xs m pre
      have hnm := x.hs.1
      obtain ⟨w3, hw3⟩ : ∃ w3, w3 = W.alloc (.cells #[.int .i64 x.x.file, .int .i64 x.x.cls.name.pos, .int .i64 0] 79) := ⟨_, rfl⟩
      have hB3 : Below W.heap.size W w3 := by rw [hw3]; exact (Below.refl _ _).alloc (Nat.le_refl _) _
      have yT := (cell_blk ((hB3.block _ (by omega)).trans hI.xT) 0).trans rfl
      have yM := cell_later hB3 t1
      have yN := (cell_blk ((hB3.block _ hBl).trans hX) 2).trans rfl
      obtain ⟨d0, hdd⟩ : ∃ d0, d0 = fnd0 xs x.x.cls.name.text := ⟨_, rfl⟩
      have hlk := fun nq => look_runFN (w := w3) (by rw [hw3]; exact t4.alloc _) t5 hnm nq
      rw [← hdd] at hlk
      clear hI hX t1 t4 t5 hr hB3
      have HDD := Lib.hid hdd
      gi_wp2
      rw [← hw3]
      have HW3 := Lib.hid hw3
      clear hw3 hdd
      refine region_quiet_round (by kernel_rfl) (by kernel_rfl) (by kernel_rfl) ?_
      repeat (gi_big_quiet_step (fail))
      refine wpQuietIn_nil ?_
      intro _ hw'
      obtain ⟨nq, hw''⟩ := hw'
      subst hw''
      obtain ⟨v, hv, hJ⟩ := FsJ.start HII.out HXX.out #[.int .i64 x.x.file, .int .i64 x.x.cls.name.pos, .int .i64 0] nq
      rw [← HW3.out] at hJ
      obtain ⟨V, hV⟩ : ∃ V, V = w3.drewN nq := ⟨_, rfl⟩
      rw [← hV] at hJ ⊢
      have o0 := (cell_blk hJ.out 0).trans rfl
      have fo := frozen_blk hJ.out 0
      have tT := (cell_blk hJ.xT 0).trans rfl
      have eM : V.cell? ⟨Bx, 1, none⟩ = some (.bool x.x.cls.main) := (cell_blk hJ.ent 1).trans rfl
      have q0 := (cell_blk hJ.flt 0).trans rfl
      have q1 := (cell_blk hJ.flt 1).trans rfl
      have q2 := (cell_blk hJ.flt 2).trans rfl
      have fq := frozen_blk hJ.flt 2
      have tM := (World.cell?_of_block (a := ⟨tb, 2, none⟩) (hJ.bel.block tb htb)).trans g2
      have HJ := Lib.hid hJ
      obtain ⟨Av, cv, ev, -⟩ := hJ.row.slice_
      obtain ⟨nv, hnv⟩ : ∃ q, q = (cfA xs m pre).length := ⟨_, rfl⟩
      rw [← hnv] at ev
      clear hnv
      clear hV hJ hv x0 x3 yT yM yN hlk
      subst ev
      have hmm : x.x.cls.main = false ∨ (x.x.cls.main = true ∧ m = x.j) ∨ (x.x.cls.main = true ∧ m ≠ x.j) := by cases x.x.cls.main <;> simp; omega
      by_cases hd : d0 = x.j
      · skip
        have hd1 : (d0 != x.j) = false := by simpa using hd
        have HD1 := Lib.hid hd
        clear hd
        rcases hmm with hmm | ⟨hmm, hmj⟩ | ⟨hmm, hmj⟩
        · have HM := Lib.hid hmm
          clear hmm
          rw [HM.out] at eM
          have HF := Lib.hid (show cfA xs m (pre ++ [x]) = cfA xs m pre by rw [cfA_snoc]; unfold cfOf AE.key; simp only; rw [← HDD.out, if_pos HD1.out, if_neg (fun h => by have := HM.out; rw [this] at h; cases h.1)]; simp)
          gi_wp2
          have hfin := HJ.out
          rw [← HF.out] at hfin
          exact hfin.fin HII.out _
        · have HM := Lib.hid hmm
          have HMJ := Lib.hid hmj
          have hmj1 : (m != x.j) = false := by simpa using hmj
          clear hmm hmj
          rw [HM.out] at eM
          have HF := Lib.hid (show cfA xs m (pre ++ [x]) = cfA xs m pre by rw [cfA_snoc]; unfold cfOf AE.key; simp only; rw [← HDD.out, if_pos HD1.out, if_neg (fun h => h.2 HMJ.out)]; simp)
          gi_wp2
          have hfin := HJ.out
          rw [← HF.out] at hfin
          exact hfin.fin HII.out _
        · have HM := Lib.hid hmm
          have HMJ := Lib.hid hmj
          have hmj1 : (m != x.j) = true := by simpa using hmj
          clear hmm hmj
          rw [HM.out] at eM
          have HF := Lib.hid (show cfA xs m (pre ++ [x]) = cfA xs m pre ++ [⟨x.x.file, x.x.cls.name.pos, 9⟩] by rw [cfA_snoc]; unfold cfOf AE.key; simp only; rw [← HDD.out, if_pos HD1.out, if_pos ⟨HM.out, HMJ.out⟩]; simp)
          have HJd := Lib.hid (HJ.out.code hbw hbtW hBl (.int .i64 9))
          gi_wp2_with (gi_at_builtin; refine OwnRow.appendAt (R := ftR) (w.heap.size + 2) rfl (.tmp 57) (.tmp 59) 41 79 (.agg #[.int .i64 0, .int .i64 0, .int .i64 0]) 3 24 rfl (by kernel_rfl) (by kernel_rfl) rfl (by decide) (by decide) (.slice Av nv cv) (cfA xs m pre) ⟨x.x.file, x.x.cls.name.pos, 9⟩ [.int .i64 x.x.file, .int .i64 x.x.cls.name.pos, .int .i64 9] rfl (by rw [World.size_setCell]; first | rfl | (rw [World.size_setCell]; rfl)) rfl rfl (by simp [Value.oneCell']) HJd.out.row (by have := HJd.out.size; omega) (by first | omega | (simp only [List.length_append, List.length_singleton]; omega)) ?_; intro v2 V2 hO2 hg2 hat2; have J2m := HJd.out.mid hg2; have o2 := (cell_blk J2m.1 0).trans rfl; have fo2 := frozen_blk J2m.1 0; have tT2 := (cell_blk J2m.2.1 0).trans rfl; have eM2 : V2.cell? ⟨Bx, 1, none⟩ = some (.bool x.x.cls.main) := (cell_blk J2m.2.2.1 1).trans rfl; rw [HM.out] at eM2; have q02 := (cell_blk J2m.2.2.2.1 0).trans rfl; have q12 := (cell_blk J2m.2.2.2.1 1).trans rfl; have q22 := (cell_blk J2m.2.2.2.1 2).trans rfl; have fq2 := frozen_blk J2m.2.2.2.1 2; have tM2 := (World.cell?_of_block (a := ⟨tb, 2, none⟩) (J2m.2.2.2.2.block tb htb)).trans g2; have HJ2 := Lib.hid (HJd.out.app hbw (by omega) (by omega) hO2 hg2 hat2); (obtain ⟨A2, c2, e2, -⟩ := hO2.slice_); (obtain ⟨n2, hn2⟩ : ∃ q, q = (cfA xs m pre ++ [(⟨x.x.file, x.x.cls.name.pos, 9⟩ : Ft)]).length := ⟨_, rfl⟩); rw [← hn2] at e2; clear hn2 hO2 hg2 hat2 J2m; subst e2)
          have hfin := HJ2.out
          rw [← HF.out] at hfin
          exact hfin.fin HII.out _
      · skip
        have hd1 : (d0 != x.j) = true := by simpa using hd
        have HD1 := Lib.hid hd
        clear hd
        rcases hmm with hmm | ⟨hmm, hmj⟩ | ⟨hmm, hmj⟩
        · have HM := Lib.hid hmm
          clear hmm
          rw [HM.out] at eM
          have HF := Lib.hid (show cfA xs m (pre ++ [x]) = cfA xs m pre ++ [⟨x.x.file, x.x.cls.name.pos, 6⟩] by rw [cfA_snoc]; unfold cfOf AE.key; simp only; rw [← HDD.out, if_neg HD1.out, if_neg (fun h => by have := HM.out; rw [this] at h; cases h.1)]; simp)
          have HJc := Lib.hid (HJ.out.code hbw hbtW hBl (.int .i64 6))
          gi_wp2_with (gi_at_builtin; refine OwnRow.appendAt (R := ftR) (w.heap.size + 2) rfl (.tmp 41) (.tmp 43) 41 79 (.agg #[.int .i64 0, .int .i64 0, .int .i64 0]) 3 24 rfl (by kernel_rfl) (by kernel_rfl) rfl (by decide) (by decide) (.slice Av nv cv) (cfA xs m pre) ⟨x.x.file, x.x.cls.name.pos, 6⟩ [.int .i64 x.x.file, .int .i64 x.x.cls.name.pos, .int .i64 6] rfl (by rw [World.size_setCell]; first | rfl | (rw [World.size_setCell]; rfl)) rfl rfl (by simp [Value.oneCell']) HJc.out.row (by have := HJc.out.size; omega) (by first | omega | (simp only [List.length_append, List.length_singleton]; omega)) ?_; intro v1 V1 hO1 hg1 hat1; have J1m := HJc.out.mid hg1; have o1 := (cell_blk J1m.1 0).trans rfl; have fo1 := frozen_blk J1m.1 0; have tT1 := (cell_blk J1m.2.1 0).trans rfl; have eM1 : V1.cell? ⟨Bx, 1, none⟩ = some (.bool x.x.cls.main) := (cell_blk J1m.2.2.1 1).trans rfl; rw [HM.out] at eM1; have q01 := (cell_blk J1m.2.2.2.1 0).trans rfl; have q11 := (cell_blk J1m.2.2.2.1 1).trans rfl; have q21 := (cell_blk J1m.2.2.2.1 2).trans rfl; have fq1 := frozen_blk J1m.2.2.2.1 2; have tM1 := (World.cell?_of_block (a := ⟨tb, 2, none⟩) (J1m.2.2.2.2.block tb htb)).trans g2; have HJ1 := Lib.hid (HJc.out.app hbw (by omega) (by omega) hO1 hg1 hat1); (obtain ⟨A1, c1, e1, -⟩ := hO1.slice_); (obtain ⟨n1, hn1⟩ : ∃ q, q = (cfA xs m pre ++ [(⟨x.x.file, x.x.cls.name.pos, 6⟩ : Ft)]).length := ⟨_, rfl⟩); rw [← hn1] at e1; clear hn1 hO1 hg1 hat1 J1m; subst e1)
          have hfin := HJ1.out
          rw [← HF.out] at hfin
          exact hfin.fin HII.out _
        · have HM := Lib.hid hmm
          have HMJ := Lib.hid hmj
          have hmj1 : (m != x.j) = false := by simpa using hmj
          clear hmm hmj
          rw [HM.out] at eM
          have HF := Lib.hid (show cfA xs m (pre ++ [x]) = cfA xs m pre ++ [⟨x.x.file, x.x.cls.name.pos, 6⟩] by rw [cfA_snoc]; unfold cfOf AE.key; simp only; rw [← HDD.out, if_neg HD1.out, if_neg (fun h => h.2 HMJ.out)]; simp)
          have HJc := Lib.hid (HJ.out.code hbw hbtW hBl (.int .i64 6))
          gi_wp2_with (gi_at_builtin; refine OwnRow.appendAt (R := ftR) (w.heap.size + 2) rfl (.tmp 41) (.tmp 43) 41 79 (.agg #[.int .i64 0, .int .i64 0, .int .i64 0]) 3 24 rfl (by kernel_rfl) (by kernel_rfl) rfl (by decide) (by decide) (.slice Av nv cv) (cfA xs m pre) ⟨x.x.file, x.x.cls.name.pos, 6⟩ [.int .i64 x.x.file, .int .i64 x.x.cls.name.pos, .int .i64 6] rfl (by rw [World.size_setCell]; first | rfl | (rw [World.size_setCell]; rfl)) rfl rfl (by simp [Value.oneCell']) HJc.out.row (by have := HJc.out.size; omega) (by first | omega | (simp only [List.length_append, List.length_singleton]; omega)) ?_; intro v1 V1 hO1 hg1 hat1; have J1m := HJc.out.mid hg1; have o1 := (cell_blk J1m.1 0).trans rfl; have fo1 := frozen_blk J1m.1 0; have tT1 := (cell_blk J1m.2.1 0).trans rfl; have eM1 : V1.cell? ⟨Bx, 1, none⟩ = some (.bool x.x.cls.main) := (cell_blk J1m.2.2.1 1).trans rfl; rw [HM.out] at eM1; have q01 := (cell_blk J1m.2.2.2.1 0).trans rfl; have q11 := (cell_blk J1m.2.2.2.1 1).trans rfl; have q21 := (cell_blk J1m.2.2.2.1 2).trans rfl; have fq1 := frozen_blk J1m.2.2.2.1 2; have tM1 := (World.cell?_of_block (a := ⟨tb, 2, none⟩) (J1m.2.2.2.2.block tb htb)).trans g2; have HJ1 := Lib.hid (HJc.out.app hbw (by omega) (by omega) hO1 hg1 hat1); (obtain ⟨A1, c1, e1, -⟩ := hO1.slice_); (obtain ⟨n1, hn1⟩ : ∃ q, q = (cfA xs m pre ++ [(⟨x.x.file, x.x.cls.name.pos, 6⟩ : Ft)]).length := ⟨_, rfl⟩); rw [← hn1] at e1; clear hn1 hO1 hg1 hat1 J1m; subst e1)
          have hfin := HJ1.out
          rw [← HF.out] at hfin
          exact hfin.fin HII.out _
        · have HM := Lib.hid hmm
          have HMJ := Lib.hid hmj
          have hmj1 : (m != x.j) = true := by simpa using hmj
          clear hmm hmj
          rw [HM.out] at eM
          have HF := Lib.hid (show cfA xs m (pre ++ [x]) = cfA xs m pre ++ [⟨x.x.file, x.x.cls.name.pos, 6⟩] ++ [⟨x.x.file, x.x.cls.name.pos, 9⟩] by rw [cfA_snoc]; unfold cfOf AE.key; simp only; rw [← HDD.out, if_neg HD1.out, if_pos ⟨HM.out, HMJ.out⟩]; simp)
          have HJc := Lib.hid (HJ.out.code hbw hbtW hBl (.int .i64 6))
          gi_wp2_with (first | (gi_at_builtin; refine OwnRow.appendAt (R := ftR) (w.heap.size + 2) rfl (.tmp 41) (.tmp 43) 41 79 (.agg #[.int .i64 0, .int .i64 0, .int .i64 0]) 3 24 rfl (by kernel_rfl) (by kernel_rfl) rfl (by decide) (by decide) (.slice Av nv cv) (cfA xs m pre) ⟨x.x.file, x.x.cls.name.pos, 6⟩ [.int .i64 x.x.file, .int .i64 x.x.cls.name.pos, .int .i64 6] rfl (by rw [World.size_setCell]; first | rfl | (rw [World.size_setCell]; rfl)) rfl rfl (by simp [Value.oneCell']) HJc.out.row (by have := HJc.out.size; omega) (by first | omega | (simp only [List.length_append, List.length_singleton]; omega)) ?_; intro v1 V1 hO1 hg1 hat1; have J1m := HJc.out.mid hg1; have o1 := (cell_blk J1m.1 0).trans rfl; have fo1 := frozen_blk J1m.1 0; have tT1 := (cell_blk J1m.2.1 0).trans rfl; have eM1 : V1.cell? ⟨Bx, 1, none⟩ = some (.bool x.x.cls.main) := (cell_blk J1m.2.2.1 1).trans rfl; rw [HM.out] at eM1; have q01 := (cell_blk J1m.2.2.2.1 0).trans rfl; have q11 := (cell_blk J1m.2.2.2.1 1).trans rfl; have q21 := (cell_blk J1m.2.2.2.1 2).trans rfl; have fq1 := frozen_blk J1m.2.2.2.1 2; have tM1 := (World.cell?_of_block (a := ⟨tb, 2, none⟩) (J1m.2.2.2.2.block tb htb)).trans g2; have HJ1 := Lib.hid (HJc.out.app hbw (by omega) (by omega) hO1 hg1 hat1); (obtain ⟨A1, c1, e1, -⟩ := hO1.slice_); (obtain ⟨n1, hn1⟩ : ∃ q, q = (cfA xs m pre ++ [(⟨x.x.file, x.x.cls.name.pos, 6⟩ : Ft)]).length := ⟨_, rfl⟩); rw [← hn1] at e1; clear hn1 hO1 hg1 hat1 J1m; subst e1) | (gi_at_builtin; have HJd := Lib.hid (HJ1.out.code hbw hbtW hBl (.int .i64 9)); refine OwnRow.appendAt (R := ftR) (w.heap.size + 2) rfl (.tmp 57) (.tmp 59) 41 79 (.agg #[.int .i64 0, .int .i64 0, .int .i64 0]) 3 24 rfl (by kernel_rfl) (by kernel_rfl) rfl (by decide) (by decide) (.slice A1 n1 c1) (cfA xs m pre ++ [(⟨x.x.file, x.x.cls.name.pos, 6⟩ : Ft)]) ⟨x.x.file, x.x.cls.name.pos, 9⟩ [.int .i64 x.x.file, .int .i64 x.x.cls.name.pos, .int .i64 9] rfl (by rw [World.size_setCell]; first | rfl | (rw [World.size_setCell]; rfl)) rfl rfl (by simp [Value.oneCell']) HJd.out.row (by have := HJd.out.size; omega) (by first | omega | (simp only [List.length_append, List.length_singleton]; omega)) ?_; intro v2 V2 hO2 hg2 hat2; have J2m := HJd.out.mid hg2; have o2 := (cell_blk J2m.1 0).trans rfl; have fo2 := frozen_blk J2m.1 0; have tT2 := (cell_blk J2m.2.1 0).trans rfl; have eM2 : V2.cell? ⟨Bx, 1, none⟩ = some (.bool x.x.cls.main) := (cell_blk J2m.2.2.1 1).trans rfl; rw [HM.out] at eM2; have q02 := (cell_blk J2m.2.2.2.1 0).trans rfl; have q12 := (cell_blk J2m.2.2.2.1 1).trans rfl; have q22 := (cell_blk J2m.2.2.2.1 2).trans rfl; have fq2 := frozen_blk J2m.2.2.2.1 2; have tM2 := (World.cell?_of_block (a := ⟨tb, 2, none⟩) (J2m.2.2.2.2.block tb htb)).trans g2; have HJ2 := Lib.hid (HJd.out.app hbw (by omega) (by omega) hO2 hg2 hat2); (obtain ⟨A2, c2, e2, -⟩ := hO2.slice_); (obtain ⟨n2, hn2⟩ : ∃ q, q = (cfA xs m pre ++ [(⟨x.x.file, x.x.cls.name.pos, 6⟩ : Ft)] ++ [(⟨x.x.file, x.x.cls.name.pos, 9⟩ : Ft)]).length := ⟨_, rfl⟩); rw [← hn2] at e2; clear hn2 hO2 hg2 hat2 J2m; subst e2))
          have hfin := HJ2.out
          rw [← HF.out] at hfin
          exact hfin.fin HII.out _
    case done =>
      rintro D ys W hD hys hI hK
      obtain ⟨v, h5, hrow⟩ := hI.out
      have hEq : cfA xs m ys = classFs xs m := by unfold cfA classFs; rw [hys]
      have hlen : (classFs xs m).length ≤ 1000000 := by
        have h1 := cfA_le xs m ys
        have h2 : ys.length = xs.length := by have := congrArg List.length hys; rw [List.length_map, sees_len] at this; exact this
        rw [← hEq]; omega
      rw [hEq] at hrow
      have o0 := (cell_blk h5 0).trans rfl
      obtain ⟨A0, cc, rfl, hlc, hC⟩ := OwnRow.reads (R := kFt.K W) (hrow.imp_ (fun x cs hp => by rw [show cs = cFt x from hp]; exact kFt_mk W x))
      obtain ⟨q, hq⟩ : ∃ q, q = (classFs xs m).length := ⟨_, rfl⟩
      rw [← hq] at o0
      have HQ := Lib.hid hq
      have HC := Lib.hid (Sorted_calls (c := cc) hC hlen)
      rw [← hq] at HC
      have HII := Lib.hid hI
      have HKD := Lib.hid hK
      have HD := Lib.hid hD
      clear hI h5 hrow hq hK hD hC hlc hlen
      gi_wp2_with fail
      go_wp2_with fail
      refine HC.out.mono ?_
      rintro e w6 ⟨A', c', rfl, hC', hB'⟩
      have hDl : D < W.heap.size := (Array.getElem?_eq_some_iff.1 HKD.out).1
      have hK6 := (hB'.block D hDl).trans HKD.out
      have HC6 := Lib.hid hC'
      have HB6 := Lib.hid hB'
      obtain ⟨q6, hq6⟩ : ∃ q, q = (setF (classFs xs m)).length := ⟨_, rfl⟩
      rw [← hq6]
      have HQ6 := Lib.hid hq6
      have HK6 := Lib.hid hK6
      clear hq6 hC' hB' hK6 o0
      go_wp2_with fail
      refine ⟨by simp, .inl ⟨_, _, rfl, run_takeDeferred HK6.out, ?_⟩⟩
      have hDD := HD.out
      refine ⟨_, results_tmp Tryz.results12 _ _ _, A', c', ?_, ?_, ?_⟩
      · show Ending.returned (Value.slice A' q6 c') = _
        rw [HQ6.out]
      · exact up_C up_kFt (sub_putObj HK6.out _) HC6.out
      · exact below_putObj (HII.out.bel.trans (HB6.out.mono (by have := HII.out.bel.size; omega))) (by omega) _
    case stop =>
      rintro D c pre W hD hpre hI hK
      exact hI.elim
end Go.Proofs.YtbfkkepdeepdeaaGreatDoor
end
section
namespace Go.Proofs.YtbfkkepdeepdeaaGreatDoor
open Go Go.RowKit Go.Maps Go.Proofs.YtbfkkepdeepdeaaGreatDoorW.PrintWords Go.Proofs.YtbfkkepdeepdeaaGreatDoorW.PrintLast Go.Proofs.YtbfkkepdeepdeaaGreatDoorW.PrintMore
set_option linter.unusedVariables false
set_option linter.unusedSimpArgs false
set_option maxRecDepth 100000
abbrev txt14 : ByteArray := ⟨#[99, 108, 97, 115, 115, 32, 65, 32, 123, 32, 125]⟩
def fl14 : List Fl := [⟨⟨#[97]⟩, txt14⟩, ⟨⟨#[98]⟩, txt14⟩]
def nd14 : Nd := ⟨4, noB, noB, 0, [⟨1, noB, wClass, 0, []⟩, ⟨1, ⟨#[32]⟩, ⟨#[65]⟩, 6, []⟩, ⟨1, ⟨#[32]⟩, wLC, 8, []⟩, ⟨1, ⟨#[32]⟩, wRC, 10, []⟩]⟩
def cl14 : Cl := ⟨false, ⟨⟨#[65]⟩, 6⟩, zNm, [], [], zNm, []⟩
theorem pds14 : allPd fl14 = .inl [⟨mk 2 [nd14], noB⟩, ⟨mk 2 [nd14], noB⟩] := by kernel_rfl
theorem views14 : allViews fl14 = .inl [[cl14], [cl14]] := by
  unfold allViews
  rw [pds14]
  kernel_rfl
theorem viewsOk14 : ViewsOk fl14 := fun ps h x hx => by
  rw [pds14] at h
  injection h with h
  subst h
  have hx2 : x = ⟨mk 2 [nd14], noB⟩ := by rcases List.mem_cons.1 hx with e | e; exact e; exact List.mem_singleton.1 e
  subst hx2
  refine ⟨by decide, fun k hk => ?_⟩
  rw [List.mem_singleton.1 hk]
  exact class_plain _ (by kernel_rfl)
structure TabRes (w : World) (r : List (List Cl) ⊕ Fail3) (e : Ending) (w' : World) : Prop where
  keep : Below w.heap.size w w'
  val : (∃ vs tb, r = .inl vs ∧ e = .returned (.tuple #[.pointer (some ⟨tb, 0, none⟩), .agg #[.int .i64 0, .int .i64 0], .nilIface]) ∧ Tab w' tb (ents vs) (mainOf (ents vs))) ∨
    (∃ f p k, r = .inr (f, p, k) ∧ e = .returned (.tuple #[.pointer none, .agg #[.int .i64 f, .int .i64 p], .iface 77 (.int .i64 k)]))
def TabOk (l : List Fl) : Prop := ∀ vs, allViews l = .inl vs → (∀ e ∈ ents vs, e.cls.name.text.size ≤ maxLen ∧ e.cls.super.text.size ≤ maxLen) ∧ (ents vs).length ≤ 100000
theorem set_same {W : World} {b j : Nat} {cs : Array Value} {T : TypeId} {v : Value} (h : W.heap[b]? = some (.cells cs T (0, 0))) (hj : cs[j]? = some v) : W.setCell ⟨b, j, none⟩ v = W := by
  have hh : (W.setCell ⟨b, j, none⟩ v).heap = W.heap := by
    apply Array.ext_getElem?
    intro k
    by_cases e : k = b
    · subst e
      rw [heap_setCell_same h, h]
      have : cs.setIfInBounds j v = cs := by
        apply Array.ext_getElem?
        intro q
        rw [Array.getElem?_setIfInBounds]
        split
        · rename_i e; subst e; split
          · exact hj.symm
          · rename_i hn; rw [Array.getElem?_eq_none (by omega)]
        · rfl
      rw [this]
    · exact Below.heap_setCell _ _ _ _ e
  show { W with heap := (W.setCell ⟨b, j, none⟩ v).heap } = W
  rw [hh]
set_option maxHeartbeats 1000000 in
theorem TabOf_calls {w : World} {A : Option Addr} {n c : Nat} {l : List Fl} (h : kFl.C w A n l) (E : Env w) (hV : ViewsOk l) (hT : TabOk l) : Calls Tryz.prog 14 #[.slice A n c] w (TabRes w (allViews l)) := by
  obtain ⟨w1, hw1⟩ : ∃ w1, w1 = w.alloc (.cells #[.int .i64 0, .int .i64 0] 46) := ⟨_, rfl⟩
  have hA1 : Below w.heap.size w w1 := by rw [hw1]; exact (Below.refl _ _).alloc (Nat.le_refl _) _
  have hz1 : w1.heap.size = w.heap.size + 1 := by rw [hw1]; simp
  have HY := Lib.hid (show w1.heap[w.heap.size]? = some (.cells #[.int .i64 0, .int .i64 0] 46 (0, 0)) by rw [hw1]; exact World.alloc_heap_new w _)
  have HC := Lib.hid (All_views (c := c) (Kd.C_below h hA1) (E.below hA1) hV)
  rw [hw1] at HC
  have HA := Lib.hid hA1
  have HTT := Lib.hid hT
  clear hA1 E h hV hT
  go_enter Tryz.func14, Tryz.ntmps14
  go_wp2_with fail
  refine HC.out.mono ?_
  rintro e w2 ⟨k2, h2⟩
  rw [← hw1] at k2
  have HY2 := Lib.hid ((k2.block w.heap.size (by omega)).trans HY.out)
  have HA2 := Lib.hid (below_step HA.out k2)
  have hz2 : w.heap.size < w2.heap.size := by have := k2.size; omega
  have y0 := (cell_blk HY2.out 0).trans rfl
  have y1 := (cell_blk HY2.out 1).trans rfl
  have f0 := frozen_blk HY2.out 0
  have f1 := frozen_blk HY2.out 1
  obtain ⟨f, p, hfp⟩ : ∃ f p, (∃ vs, allViews l = .inl vs ∧ f = 0 ∧ p = 0) ∨ (∃ k, allViews l = .inr (f, p, k)) := by
    rcases h2 with ⟨vs, A2, c2, hr, -⟩ | ⟨f, p, k, hr, -⟩
    · exact ⟨0, 0, .inl ⟨vs, hr, rfl, rfl⟩⟩
    · exact ⟨f, p, .inr ⟨k, hr⟩⟩
  have HFP := Lib.hid hfp
  obtain ⟨w3, hw3⟩ : ∃ w3, w3 = w2.alloc (.cells #[.int .i64 f, .int .i64 p] 46) := ⟨_, rfl⟩
  have hB3 : Below w2.heap.size w2 w3 := by rw [hw3]; exact (Below.refl _ _).alloc (Nat.le_refl _) _
  have HN3 := Lib.hid (show w3.heap[w2.heap.size]? = some (.cells #[.int .i64 f, .int .i64 p] 46 (0, 0)) by rw [hw3]; exact World.alloc_heap_new w2 _)
  have HY3 := Lib.hid ((hB3.block w.heap.size hz2).trans HY2.out)
  have HA3 := Lib.hid (below_step HA2.out hB3)
  have hz3 : w3.heap.size = w2.heap.size + 1 := by rw [hw3]; simp
  clear y0 y1 f0 f1 hfp
  rcases h2 with ⟨vs, A2, c2, hr, rfl, hl, hC⟩ | ⟨f2, p2, k, hr, rfl⟩
  · obtain ⟨rfl, rfl⟩ : f = 0 ∧ p = 0 := by
      rcases HFP.out with ⟨_, _, h1, h2⟩ | ⟨k, h⟩
      · exact ⟨h1, h2⟩
      · rw [hr] at h; cases h
    obtain ⟨hnm, hsh⟩ := HTT.out vs hr
    have HR := Lib.hid hr
    have HN := Lib.hid (TNew_calls (c := c2) (Kd.C_below hC hB3) hnm (by omega))
    rw [hw3] at HN
    clear hr hC k2 HC hB3 hnm hsh
    go_wp2_with fail
    refine HN.out.mono ?_
    rintro e w4 ⟨tb, rfl, hT, hB4⟩
    rw [← hw3] at hB4
    have HT4 := Lib.hid hT
    have HY4 := Lib.hid ((hB4.block w.heap.size (by omega)).trans HY3.out)
    have HA4 := Lib.hid (below_step HA3.out hB4)
    have f0 := frozen_blk HY4.out 0
    have f1 := frozen_blk HY4.out 1
    have y0 := (cell_blk HY4.out 0).trans rfl
    have y1 := (cell_blk HY4.out 1).trans rfl
    clear hT hB4
    go_wp2_with fail
    rw [set_same HY4.out rfl, set_same HY4.out rfl]
    exact bodyPost_ret (res3c Tryz.results14 rfl HY4.out) rfl ⟨HA4.out, .inl ⟨vs, tb, HR.out, rfl, HT4.out⟩⟩
  · obtain ⟨rfl, rfl⟩ : f = f2 ∧ p = p2 := by
      rcases HFP.out with ⟨_, h, _⟩ | ⟨k, h⟩
      · rw [hr] at h; cases h
      · rw [hr] at h; injection h with h; injection h with h1 h; injection h with h2 _; exact ⟨h1.symm, h2.symm⟩
    have HR := Lib.hid hr
    clear hr k2 HC hB3
    go_wp2_with fail
    rw [← hw3]
    have n0 := (cell_blk HN3.out 0).trans rfl
    have n1 := (cell_blk HN3.out 1).trans rfl
    have f0 := frozen_blk HY3.out 0
    have f1 := frozen_blk HY3.out 1
    have y0 := (cell_blk HY3.out 0).trans rfl
    have y1 := (cell_blk HY3.out 1).trans rfl
    clear hw3
    go_region
    go_wp2
    exact bodyPost_ret (res3c Tryz.results14 rfl (set2 HY3.out (.int .i64 f) (.int .i64 p))) rfl ⟨below_step (keep2b HA3.out (Nat.le_refl _) _ _) (below_drew1 _), .inr ⟨f, p, k, HR.out, rfl⟩⟩
def es14 : List En := ents [[cl14], [cl14]]
theorem tabOk14 : TabOk fl14 := fun vs h => by
  rw [views14] at h
  injection h with h
  subst h
  refine ⟨fun e he => ?_, by decide⟩
  have : e.cls = cl14 := by
    rcases List.mem_cons.1 (show e ∈ [(⟨0, cl14⟩ : En), ⟨1, cl14⟩] from he) with h | h
    · rw [h]
    · rw [List.mem_singleton.1 h]
  rw [this]
  exact ⟨by decide, by decide⟩
theorem faults14 : setF (classFs es14 (mainOf es14)) = [⟨0, 0, 9⟩, ⟨1, 6, 6⟩] := by kernel_rfl
theorem fl14_C {W : World} {b : Nat} (h : W.heap[b]? = some (.cells #[.string ⟨#[97]⟩, .string txt14, .string ⟨#[98]⟩, .string txt14] 85 (0, 0))) : kFl.C W (some ⟨b, 0, none⟩) 2 fl14 :=
  C_blk (d := kFl) (xs := fl14) h (((Reps.none _ 2).snoc (kFl_mk W ⟨⟨#[97]⟩, txt14⟩) rfl).snoc (kFl_mk W ⟨⟨#[98]⟩, txt14⟩) rfl) (by decide)
theorem alive14_calls {w : World} (E : Env w) : Calls Tryz.prog 7 #[] w fun e w' => e = .returned (.bool true) ∧ Below w.heap.size w w' := by
  obtain ⟨w1, hw1⟩ : ∃ w1, w1 = w.alloc (.cells #[.string ⟨#[97]⟩, .string txt14, .string ⟨#[98]⟩, .string txt14] 85) := ⟨_, rfl⟩
  have hA : Below w.heap.size w w1 := by rw [hw1]; exact (Below.refl _ _).alloc (Nat.le_refl _) _
  have HO := Lib.hid (TabOf_calls (c := 2) (fl14_C (W := w1) (b := w.heap.size) (by rw [hw1]; exact World.alloc_heap_new w _)) (E.below hA) viewsOk14 tabOk14)
  rw [views14, hw1] at HO
  have HA := Lib.hid hA
  clear hA E
  go_enter Tryz.func7, Tryz.ntmps7
  go_wp2_with fail
  refine HO.out.mono ?_
  rintro e w2 ⟨k2, hval⟩
  obtain ⟨tb, rfl, hT⟩ : ∃ tb, e = .returned (.tuple #[.pointer (some ⟨tb, 0, none⟩), .agg #[.int .i64 0, .int .i64 0], .nilIface]) ∧ Tab w2 tb es14 (mainOf es14) := by
    rcases hval with ⟨vs, tb, hv, he, hT⟩ | ⟨f, p, k, hv, -⟩
    · injection hv with hv
      subst hv
      exact ⟨tb, he, hT⟩
    · cases hv
  clear hval
  have HT := Lib.hid (show Tab w2 tb es14 (mainOf es14) from hT)
  rw [← hw1] at k2
  have HA2 := Lib.hid (below_step HA.out k2)
  obtain ⟨w3, hw3⟩ : ∃ w3, w3 = w2.alloc (.cells #[.int .i64 0, .int .i64 0] 46) := ⟨_, rfl⟩
  have hB3 : Below w2.heap.size w2 w3 := by rw [hw3]; exact (Below.refl _ _).alloc (Nat.le_refl _) _
  have HT3 := Lib.hid (HT.out.later hB3)
  have HA3 := Lib.hid (below_step HA2.out hB3)
  clear hT k2 hB3 HO
  go_wp2_with fail
  rw [← hw3]
  clear hw3
  refine (Len_calls HT3.out).mono ?_
  rintro e w4 ⟨rfl, rfl⟩
  rw [show es14.length = 2 by decide]
  go_wp2_with fail
  refine (CFaults_calls HT3.out (by decide)).mono ?_
  rw [faults14]
  rintro e w5 ⟨A5, c5, rfl, hC5, hB5⟩
  have HC5 := Lib.hid hC5
  have HA5 := Lib.hid (below_step HA3.out hB5)
  clear hC5 hB5
  have hB6 : Below w5.heap.size w5 (w5.alloc (.cells #[.int .i64 0, .int .i64 0, .int .i64 9, .int .i64 1, .int .i64 6, .int .i64 6] 79)) := (Below.refl _ _).alloc (Nat.le_refl _) _
  have hD6 : Kd.C kFt (w5.alloc (.cells #[.int .i64 0, .int .i64 0, .int .i64 9, .int .i64 1, .int .i64 6, .int .i64 6] 79)) (some ⟨w5.heap.size, 0, none⟩) 2 [⟨0, 0, 9⟩, ⟨1, 6, 6⟩] :=
    C_blk (d := kFt) (xs := [⟨0, 0, 9⟩, ⟨1, 6, 6⟩]) (World.alloc_heap_new w5 _) (((Reps.none _ 3).snoc (kFt_mk _ ⟨0, 0, 9⟩) rfl).snoc (kFt_mk _ ⟨1, 6, 6⟩) rfl) (by decide)
  have HS := Lib.hid (SameF_calls (c := c5) (d := 2) (Kd.C_below HC5.out hB6) hD6)
  have HA6 := Lib.hid (below_step HA5.out hB6)
  clear hB6 hD6
  go_wp2_with fail
  refine HS.out.mono ?_
  rintro e w6 ⟨rfl, h6⟩
  have HA7 := Lib.hid (below_step HA6.out h6)
  clear h6
  rw [show sameF [(⟨0, 0, 9⟩ : Ft), ⟨1, 6, 6⟩] [⟨0, 0, 9⟩, ⟨1, 6, 6⟩] = true from decide_eq_true rfl]
  go_wp2_with fail
  go_ret
  exact ⟨rfl, HA7.out⟩
end Go.Proofs.YtbfkkepdeepdeaaGreatDoor
end
section
namespace Go.Proofs.YtbfkkepdeepdeaaGreatDoor
open Go Go.RowKit Go.Maps Go.Shelf Go.Proofs.YtbfkkepdeepdeaaGreatDoorW.PrintWords Go.Proofs.YtbfkkepdeepdeaaGreatDoorW.PrintLast Go.Proofs.YtbfkkepdeepdeaaGreatDoorW.PrintMore
set_option linter.unusedVariables false
set_option linter.unusedSimpArgs false
set_option maxRecDepth 100000
attribute [local go_sem] Oper.semAt_some
theorem resB {F : Func} {i b : Nat} {tmps : Array Value} {W : World} {v : Value} (hF : F.results = #[.cell i 4]) (h : tmps.getD i undef = .pointer (some ⟨b, 0, none⟩)) (hb : W.heap[b]? = some (.cells #[v] 4 (0, 0))) : (results F tmps).run Tryz.prog W = .ok v W := by
  have h' : tmps[i]?.getD undef = .pointer (some ⟨b, 0, none⟩) := by simpa using h
  have c0 := (cell_blk hb 0).trans rfl
  simp [results, hF, h', go_sem, c0]
end Go.Proofs.YtbfkkepdeepdeaaGreatDoor
end
section
namespace Go.Proofs.YtbfkkepdeepdeaaGreatDoor
open Go.RowKit Go.Proofs.YtbfkkepdeepdeaaGreatDoorW.PrintWords Go.Proofs.YtbfkkepdeepdeaaGreatDoorW.PrintLast Go.Proofs.YtbfkkepdeepdeaaGreatDoorW.PrintMore
set_option linter.unusedVariables false
set_option linter.unusedSimpArgs false
def Light {H : Type} (P : Program) (t : Nat) (d : DataW H) : Prop := ∀ n ∈ d.weights P t, n ≤ reachBytes
def OpensAt {α : Type} (P : Program) (n : Nat) (d : Kd α) (t : Nat) (G : α → Prop) : Prop :=
  ∀ (H : Type) (enc : TypeId × Value → H) (w : World) (base : Nat) (sp : Nat → Bool) (held : Bool) (cs : List Value) (x : DataW H × List MemPlace), DataW.trod enc P w base sp held n t cs = some x → Light P t x.1 → ∃ a, d.K w a cs ∧ G a
def Opens {α : Type} (P : Program) (d : Kd α) (t : Nat) (G : α → Prop) : Prop := ∀ n, OpensAt P n d t G
section
variable {P : Program}
theorem opens_int {k : IntKind} {t : Nat} (ht : P.underlying t = some (.int k)) : Opens P (Kd.int k) t (fun n => (Lit.int k n).wf = true) := by
  intro n H enc w base sp held cs x h hw
  obtain ⟨m, rfl, -, hwf⟩ := DataW.trod_int ht h
  exact ⟨m, rfl, hwf⟩
theorem opens_bool {t : Nat} (ht : P.underlying t = some .bool) : Opens P Kd.bool t (fun _ => True) := by
  intro n H enc w base sp held cs x h hw
  obtain ⟨m, rfl, -⟩ := DataW.trod_bool ht h
  exact ⟨m, rfl, trivial⟩
theorem opens_string {t : Nat} (ht : P.underlying t = some .string) : Opens P Kd.string t (fun s => s.size ≤ reachBytes) := by
  intro n H enc w base sp held cs x h hw
  obtain ⟨m, rfl, rfl, hm⟩ := DataW.trod_string ht h
  exact ⟨m, rfl, hw _ (by simp [DataW.weights])⟩
theorem choose_list {α : Type} {m : Nat} {R : Nat → α → Prop} (h : ∀ i, i < m → ∃ a, R i a) : ∃ l : List α, l.length = m ∧ ∀ i a, l[i]? = some a → R i a := by
  induction m with
  | zero => exact ⟨[], rfl, fun i a h => by simp at h⟩
  | succ m ih =>
    obtain ⟨l, hl, hr⟩ := ih (fun i hi => h i (by omega))
    obtain ⟨a, ha⟩ := h m (by omega)
    refine ⟨l ++ [a], by simp [hl], fun i b hb => ?_⟩
    rcases Nat.lt_or_ge i l.length with hlt | hge
    · rw [List.getElem?_append_left hlt] at hb; exact hr i b hb
    · have := (List.getElem?_eq_some_iff.1 hb).1
      have hi : i = l.length := by simp at this; omega
      subst hi
      rw [List.getElem?_append_right (Nat.le_refl _)] at hb
      simp at hb; subst hb; rw [hl]; exact ha
theorem all_light {H : Type} {P : Program} {e : Nat} : ∀ {l : List (DataW H)} {j : Nat} {d : DataW H}, l[j]? = some d → ∀ n ∈ d.weights P e, n ∈ DataW.weightsAll P e l
  | x :: l, 0, d, h, n, hn => by simp only [List.getElem?_cons_zero, Option.some.injEq] at h; subst h; simp only [DataW.weightsAll, List.mem_append]; exact .inl hn
  | x :: l, j + 1, d, h, n, hn => by simp only [List.getElem?_cons_succ] at h; simp only [DataW.weightsAll, List.mem_append]; exact .inr (all_light h n hn)
  | [], j, d, h, n, hn => by simp at h
theorem opensAt_slice {α : Type} {d : Kd α} {t e n : Nat} {G : α → Prop} (ht : P.underlying t = some (.slice e)) (hs : P.cellsOf e = d.sz) (hb1 : 1 ≤ P.bytesOf e) (hd : ∀ m, m < n → OpensAt P m d e G) : OpensAt P n (Kd.slice e d) t (fun l => l.length ≤ reachBytes ∧ ∀ x ∈ l, G x) := by
  intro H enc w base sp held cs x h hw
  rcases DataW.trod_slice ht h with ⟨rfl, _⟩ | ⟨a, len, cap, elems, rest, m, hm, rfl, rfl, hb, hl, hmx, hlen, hel, -, -⟩
  · exact ⟨[], ⟨none, 0, rfl, Nat.le_refl _, Kd.C_nil _ _⟩, Nat.zero_le _, fun x hx => by cases hx⟩
  · have key : ∀ i, i < len → ∃ y : α, G y ∧ ∃ c : List Value, c.length = d.sz ∧ d.K w y c ∧ ∀ j u, c[j]? = some u → w.cell? (a.add (i * d.sz + j)) = some u := by
      intro i hi
      have h1 := hel i hi
      have h2 : elems[i]? = some (elems[i]'(by omega)) := List.getElem?_eq_getElem (by omega)
      rw [h2, Option.bind_eq_some_iff] at h1
      obtain ⟨c, hc, hr⟩ := h1
      obtain ⟨y, hK, hG⟩ := hd m (by omega) _ enc w base sp held c _ hr (fun q hq => hw q (by simp only [DataW.weights, ht, List.mem_cons, List.mem_append]; exact .inr (.inl (all_light (j := i) (by rw [List.getElem?_map, h2]; rfl) q hq))))
      obtain ⟨-, hcl, hat⟩ := World.cells?_some hc
      rw [hs] at hcl hat
      refine ⟨y, hG, c, hcl, hK, fun j u hu => ?_⟩
      have hj := (List.getElem?_eq_some_iff.1 hu).1
      rw [← Go.Deep.add_add, hat j (by omega), hu]
    obtain ⟨l, hll, hlr⟩ := choose_list key
    refine ⟨l, ⟨some a, cap, by rw [hll], by rw [hll]; exact hl, rfl, by rw [hll]; unfold maxLen at hmx; omega, fun _ => ⟨a, rfl, fun j p hp => (hlr j p hp).2⟩⟩, ?_, fun y hy => ?_⟩
    · have h9 := hw ((elems.map (·.1)).length + (rest.map (·.1)).length |>.mul (P.bytesOf e)) (by simp only [DataW.weights, ht]; exact List.mem_cons_self)
      have h8 : l.length ≤ (elems.map (·.1)).length + (rest.map (·.1)).length := by rw [List.length_map]; omega
      exact Nat.le_trans (Nat.le_trans h8 (Nat.le_mul_of_pos_right _ hb1)) h9
    obtain ⟨j, hj, rfl⟩ := List.getElem_of_mem hy
    exact (hlr j _ (List.getElem?_eq_getElem hj)).1
theorem opens_slice {α : Type} {d : Kd α} {t e : Nat} {G : α → Prop} (ht : P.underlying t = some (.slice e)) (hs : P.cellsOf e = d.sz) (hb1 : 1 ≤ P.bytesOf e) (hd : Opens P d e G) : Opens P (Kd.slice e d) t (fun l => l.length ≤ reachBytes ∧ ∀ x ∈ l, G x) := fun n => opensAt_slice ht hs hb1 (fun m _ => hd m)
def OpensF {α : Type} (P : Program) (n : Nat) (d : Kd α) (fs : List Field) (off : Nat) (G : α → Prop) : Prop :=
  ∀ (H : Type) (enc : TypeId × Value → H) (w : World) (base : Nat) (sp : Nat → Bool) (held : Bool) (cs : List Value), cs.length = off + d.sz → (∀ f ∈ fs, ∃ y, DataW.trod enc P w base sp held n f.type ((cs.drop f.offset).take (P.cellsOf f.type)) = some y ∧ Light P f.type y.1) → ∃ a, d.K w a (cs.drop off) ∧ G a
theorem opensF_one {α : Type} {d : Kd α} {f : Field} {off n : Nat} {G : α → Prop} (ho : f.offset = off) (hs : P.cellsOf f.type = d.sz) (hd : OpensAt P n d f.type G) : OpensF P n d [f] off G := by
  intro H enc w base sp held cs hl h
  obtain ⟨y, hy, hyl⟩ := h f (by simp)
  rw [ho, hs, List.take_of_length_le (by rw [List.length_drop]; omega)] at hy
  exact hd _ enc w base sp held _ _ hy hyl
theorem opensF_cons {α β : Type} {a : Kd α} {b : Kd β} {f : Field} {fs : List Field} {off n : Nat} {Ga : α → Prop} {Gb : β → Prop} (ho : f.offset = off) (hs : P.cellsOf f.type = a.sz) (ha : OpensAt P n a f.type Ga) (hb : OpensF P n b fs (off + a.sz) Gb) :
    OpensF P n (Kd.pair a b) (f :: fs) off (fun p => Ga p.1 ∧ Gb p.2) := by
  intro H enc w base sp held cs hl h
  have hl' : cs.length = off + (a.sz + b.sz) := hl
  obtain ⟨y, hy, hyl⟩ := h f (by simp)
  rw [ho, hs] at hy
  obtain ⟨x, hK, hG⟩ := ha _ enc w base sp held _ _ hy hyl
  obtain ⟨z, hK2, hG2⟩ := hb _ enc w base sp held cs (by omega) (fun g hg => h g (List.mem_cons_of_mem _ hg))
  refine ⟨(x, z), ⟨(cs.drop off).take a.sz, cs.drop (off + a.sz), ?_, hK, hK2⟩, hG, hG2⟩
  rw [← List.drop_drop]
  exact (List.take_append_drop _ _).symm
theorem opensAt_struct {α β : Type} {d : Kd α} {f : β → α} {g : α → β} {t n : Nat} {fs : Array Field} {G : α → Prop} {G' : β → Prop} (ht : P.underlying t = some (.struct fs)) (hs : P.cellsOf t = d.sz) (hf : ∀ m, n = m + 1 → OpensF P m d fs.toList 0 G) (hg : ∀ a, f (g a) = a) (hG : ∀ a, G a → G' (g a)) :
    OpensAt P n (Kd.iso d f) t G' := by
  intro H enc w base sp held cs x h hw
  obtain ⟨xs, m, rfl, rfl, hl, hxl, hat⟩ := DataW.trod_struct ht h
  obtain ⟨a, hK, hGa⟩ := hf m rfl _ enc w base sp held cs (by rw [hl, hs]; omega) (fun q hq => by
    obtain ⟨j, hj, rfl⟩ := List.getElem_of_mem hq
    have hj' : j < fs.size := by simpa using hj
    have h1 := hat j (fs[j]) (by rw [Array.getElem?_eq_getElem hj'])
    rw [List.getElem?_eq_getElem (by omega)] at h1
    refine ⟨_, by simpa using h1, fun q hq => hw q ?_⟩
    simp only [DataW.weights, ht]
    exact DataW.weights_mem_each (j := j) (by rw [List.getElem?_map, List.getElem?_eq_getElem (by simpa using hj)]; rfl) (by rw [List.getElem?_map, List.getElem?_eq_getElem (by omega)]; rfl) q hq)
  exact ⟨g a, by show d.K w (f (g a)) cs; rw [hg]; simpa using hK, hG a hGa⟩
end
theorem c_string : Tryz.prog.cellsOf 9 = 1 := by kernel_rfl
theorem c_bool : Tryz.prog.cellsOf 4 = 1 := by kernel_rfl
theorem c_int : Tryz.prog.cellsOf 3 = 1 := by kernel_rfl
abbrev G1 : ByteArray → Prop := fun s => s.size ≤ reachBytes
abbrev G2 : Int → Prop := fun n => (Lit.int .i64 n).wf = true
abbrev G3 : Bool → Prop := fun _ => True
abbrev GA {α β : Type} (a : α → Prop) (b : β → Prop) : α × β → Prop := fun p => a p.1 ∧ b p.2
end Go.Proofs.YtbfkkepdeepdeaaGreatDoor
end
section
namespace Go.Proofs.YtbfkkepdeepdeaaGreatDoor
open Go Go.RowKit Go.Proofs.YtbfkkepdeepdeaaGreatDoorW.PrintWords Go.Proofs.YtbfkkepdeepdeaaGreatDoorW.PrintLast Go.Proofs.YtbfkkepdeepdeaaGreatDoorW.PrintMore
set_option linter.unusedVariables false
set_option linter.unusedSimpArgs false
set_option maxRecDepth 100000
abbrev GNm (x : Nm) : Prop := x.text.size ≤ reachBytes
abbrev GL {α : Type} (G : α → Prop) (l : List α) : Prop := l.length ≤ reachBytes ∧ ∀ x ∈ l, G x
def GVr (x : Vr) : Prop := GNm x.typ ∧ GNm x.name
inductive GEx : Ex → Prop
  | mk (x : Ex) : GNm x.name → x.kids.length ≤ reachBytes → (∀ y ∈ x.kids, GEx y) → GEx x
inductive GSt : St → Prop
  | mk (x : St) : GNm x.name → GL GEx x.exps → x.kids.length ≤ reachBytes → (∀ y ∈ x.kids, GSt y) → GSt x
def GMe (x : Me) : Prop := GNm x.typ ∧ GNm x.name ∧ GL GVr x.params ∧ GL GVr x.vars ∧ GL GSt x.body ∧ GEx x.ret
def GCl (x : Cl) : Prop := GNm x.name ∧ GNm x.super ∧ GL GVr x.fields ∧ GL GMe x.methods ∧ GNm x.arg ∧ GL GSt x.body
theorem c_Nm : Tryz.prog.cellsOf 31 = 2 := by kernel_rfl
theorem c_Vr : Tryz.prog.cellsOf 152 = 6 := by kernel_rfl
theorem c_Ex : Tryz.prog.cellsOf 113 = 7 := by kernel_rfl
theorem c_St : Tryz.prog.cellsOf 150 = 7 := by kernel_rfl
theorem c_Me : Tryz.prog.cellsOf 115 = 14 := by kernel_rfl
theorem c_Cl : Tryz.prog.cellsOf 36 = 10 := by kernel_rfl
theorem opensNm : Opens Tryz.prog kNm 31 GNm := fun n => by
  refine opensAt_struct (g := fun p => (⟨p.1, p.2⟩ : Nm)) (G := GA G1 G2) Tryz.underlying31 c_Nm (fun m _ => ?_) (fun a => rfl) (fun a h => h.1)
  refine opensF_cons (off := 0) (a := Kd.string) (Ga := G1) (Gb := G2) rfl c_string (opens_string Tryz.underlying9 m) ?_
  exact opensF_one (off := 1) rfl c_int (opens_int Tryz.underlying3 m)
theorem opensVr : Opens Tryz.prog kVr 152 GVr := fun n => by
  refine opensAt_struct (g := fun p => (⟨p.1, p.2.1, p.2.2.1, p.2.2.2⟩ : Vr)) (G := GA GNm (GA GNm (GA G2 G2))) Tryz.underlying152 c_Vr (fun m _ => ?_) (fun a => rfl) (fun a h => ⟨h.1, h.2.1⟩)
  refine opensF_cons (off := 0) (a := kNm) (Ga := GNm) (Gb := GA GNm (GA G2 G2)) rfl c_Nm (opensNm m) ?_
  refine opensF_cons (off := 2) (a := kNm) (Ga := GNm) (Gb := GA G2 G2) rfl c_Nm (opensNm m) ?_
  refine opensF_cons (off := 4) (a := Kd.int .i64) (Ga := G2) (Gb := G2) rfl c_int (opens_int Tryz.underlying3 m) ?_
  exact opensF_one (off := 5) rfl c_int (opens_int Tryz.underlying3 m)
theorem kEx_of_F {w : World} {x : Ex} {cs : List Value} (h : (FkEx kEx).K w x cs) : kEx.K w x cs := by
  obtain ⟨_, _, rfl, rfl, ⟨_, _, rfl, s1, ⟨_, _, rfl, rfl, ⟨_, _, rfl, rfl, ⟨_, _, rfl, rfl, ⟨A6, c6, rfl, l6, g6⟩⟩⟩⟩⟩⟩ := h
  obtain rfl := kNm_open s1
  exact kEx_mk w x l6 g6
theorem opensEx : Opens Tryz.prog kEx 113 GEx := by
  intro n
  induction n using Nat.strongRecOn with
  | _ n ih =>
  have hF : OpensAt Tryz.prog n (FkEx kEx) 113 (fun x => GNm x.name ∧ GL GEx x.kids) := by
    refine opensAt_struct (g := fun p => (⟨p.1, p.2.1, p.2.2.1, p.2.2.2.1, p.2.2.2.2.1, p.2.2.2.2.2⟩ : Ex)) (G := GA G2 (GA GNm (GA G2 (GA G2 (GA G2 (GL GEx)))))) Tryz.underlying113 c_Ex (fun m hm => ?_) (fun a => rfl) (fun a h => ⟨h.2.1, h.2.2.2.2.2⟩)
    refine opensF_cons (off := 0) (a := Kd.int .i64) (Ga := G2) (Gb := GA GNm (GA G2 (GA G2 (GA G2 (GL GEx))))) rfl (by kernel_rfl) (opens_int (by kernel_rfl) m) ?_
    refine opensF_cons (off := 1) (a := kNm) (Ga := GNm) (Gb := GA G2 (GA G2 (GA G2 (GL GEx)))) rfl c_Nm (opensNm m) ?_
    refine opensF_cons (off := 3) (a := Kd.int .i64) (Ga := G2) (Gb := GA G2 (GA G2 (GL GEx))) rfl c_int (opens_int Tryz.underlying3 m) ?_
    refine opensF_cons (off := 4) (a := Kd.int .i64) (Ga := G2) (Gb := GA G2 (GL GEx)) rfl c_int (opens_int Tryz.underlying3 m) ?_
    refine opensF_cons (off := 5) (a := Kd.int .i64) (Ga := G2) (Gb := GL GEx) rfl c_int (opens_int Tryz.underlying3 m) ?_
    exact opensF_one (off := 6) rfl (by kernel_rfl) (opensAt_slice Tryz.underlying111 c_Ex (of_decide_eq_true (by kernel_rfl)) (fun q hq => ih q (by omega)))
  intro H enc w base sp held cs x h hw
  obtain ⟨a, hK, h1, h2, h3⟩ := hF H enc w base sp held cs x h hw
  exact ⟨a, kEx_of_F hK, .mk a h1 h2 h3⟩
theorem opensExs : Opens Tryz.prog (Kd.slice 113 kEx) 111 (GL GEx) := opens_slice Tryz.underlying111 c_Ex (of_decide_eq_true (by kernel_rfl)) opensEx
theorem kSt_of_F {w : World} {x : St} {cs : List Value} (h : (FkSt kSt).K w x cs) : kSt.K w x cs := by
  obtain ⟨_, _, rfl, rfl, ⟨_, _, rfl, s1, ⟨_, _, rfl, rfl, ⟨_, _, rfl, rfl, ⟨_, _, rfl, ⟨A5, c5, rfl, l5, g5⟩, ⟨A6, c6, rfl, l6, g6⟩⟩⟩⟩⟩⟩ := h
  obtain rfl := kNm_open s1
  exact kSt_mk w x l5 g5 l6 g6
theorem opensSt : Opens Tryz.prog kSt 150 GSt := by
  intro n
  induction n using Nat.strongRecOn with
  | _ n ih =>
  have hF : OpensAt Tryz.prog n (FkSt kSt) 150 (fun x => GNm x.name ∧ GL GEx x.exps ∧ GL GSt x.kids) := by
    refine opensAt_struct (g := fun p => (⟨p.1, p.2.1, p.2.2.1, p.2.2.2.1, p.2.2.2.2.1, p.2.2.2.2.2⟩ : St)) (G := GA G2 (GA GNm (GA G2 (GA G2 (GA (GL GEx) (GL GSt)))))) Tryz.underlying150 c_St (fun m hm => ?_) (fun a => rfl) (fun a h => ⟨h.2.1, h.2.2.2.2.1, h.2.2.2.2.2⟩)
    refine opensF_cons (off := 0) (a := Kd.int .i64) (Ga := G2) (Gb := GA GNm (GA G2 (GA G2 (GA (GL GEx) (GL GSt))))) rfl (by kernel_rfl) (opens_int (by kernel_rfl) m) ?_
    refine opensF_cons (off := 1) (a := kNm) (Ga := GNm) (Gb := GA G2 (GA G2 (GA (GL GEx) (GL GSt)))) rfl c_Nm (opensNm m) ?_
    refine opensF_cons (off := 3) (a := Kd.int .i64) (Ga := G2) (Gb := GA G2 (GA (GL GEx) (GL GSt))) rfl c_int (opens_int Tryz.underlying3 m) ?_
    refine opensF_cons (off := 4) (a := Kd.int .i64) (Ga := G2) (Gb := GA (GL GEx) (GL GSt)) rfl c_int (opens_int Tryz.underlying3 m) ?_
    refine opensF_cons (off := 5) (a := Kd.slice 113 kEx) (Ga := GL GEx) (Gb := GL GSt) rfl (by kernel_rfl) (opensExs m) ?_
    exact opensF_one (off := 6) rfl (by kernel_rfl) (opensAt_slice Tryz.underlying34 c_St (of_decide_eq_true (by kernel_rfl)) (fun q hq => ih q (by omega)))
  intro H enc w base sp held cs x h hw
  obtain ⟨a, hK, h1, h2, h3, h4⟩ := hF H enc w base sp held cs x h hw
  exact ⟨a, kSt_of_F hK, .mk a h1 h2 h3 h4⟩
theorem opensSts : Opens Tryz.prog (Kd.slice 150 kSt) 34 (GL GSt) := opens_slice Tryz.underlying34 c_St (of_decide_eq_true (by kernel_rfl)) opensSt
theorem opensVrs : Opens Tryz.prog (Kd.slice 152 kVr) 32 (GL GVr) := opens_slice Tryz.underlying32 c_Vr (of_decide_eq_true (by kernel_rfl)) opensVr
theorem opensMe : Opens Tryz.prog kMe 115 GMe := fun n => by
  refine opensAt_struct (g := fun p => (⟨p.1, p.2.1, p.2.2.1, p.2.2.2.1, p.2.2.2.2.1, p.2.2.2.2.2⟩ : Me)) (G := GA GNm (GA GNm (GA (GL GVr) (GA (GL GVr) (GA (GL GSt) GEx))))) Tryz.underlying115 c_Me (fun m _ => ?_) (fun a => rfl) (fun a h => ⟨h.1, h.2.1, h.2.2.1, h.2.2.2.1, h.2.2.2.2.1, h.2.2.2.2.2⟩)
  refine opensF_cons (off := 0) (a := kNm) (Ga := GNm) (Gb := GA GNm (GA (GL GVr) (GA (GL GVr) (GA (GL GSt) GEx)))) rfl c_Nm (opensNm m) ?_
  refine opensF_cons (off := 2) (a := kNm) (Ga := GNm) (Gb := GA (GL GVr) (GA (GL GVr) (GA (GL GSt) GEx))) rfl c_Nm (opensNm m) ?_
  refine opensF_cons (off := 4) (a := Kd.slice 152 kVr) (Ga := GL GVr) (Gb := GA (GL GVr) (GA (GL GSt) GEx)) rfl (by kernel_rfl) (opensVrs m) ?_
  refine opensF_cons (off := 5) (a := Kd.slice 152 kVr) (Ga := GL GVr) (Gb := GA (GL GSt) GEx) rfl (by kernel_rfl) (opensVrs m) ?_
  refine opensF_cons (off := 6) (a := Kd.slice 150 kSt) (Ga := GL GSt) (Gb := GEx) rfl (by kernel_rfl) (opensSts m) ?_
  exact opensF_one (off := 7) rfl c_Ex (opensEx m)
theorem opensMes : Opens Tryz.prog (Kd.slice 115 kMe) 33 (GL GMe) := opens_slice Tryz.underlying33 c_Me (of_decide_eq_true (by kernel_rfl)) opensMe
theorem opensCl : Opens Tryz.prog kCl 36 GCl := fun n => by
  refine opensAt_struct (g := fun p => (⟨p.1, p.2.1, p.2.2.1, p.2.2.2.1, p.2.2.2.2.1, p.2.2.2.2.2.1, p.2.2.2.2.2.2⟩ : Cl)) (G := GA G3 (GA GNm (GA GNm (GA (GL GVr) (GA (GL GMe) (GA GNm (GL GSt))))))) Tryz.underlying36 c_Cl (fun m _ => ?_) (fun a => rfl) (fun a h => ⟨h.2.1, h.2.2.1, h.2.2.2.1, h.2.2.2.2.1, h.2.2.2.2.2.1, h.2.2.2.2.2.2⟩)
  refine opensF_cons (off := 0) (a := Kd.bool) (Ga := G3) (Gb := GA GNm (GA GNm (GA (GL GVr) (GA (GL GMe) (GA GNm (GL GSt)))))) rfl c_bool (opens_bool Tryz.underlying4 m) ?_
  refine opensF_cons (off := 1) (a := kNm) (Ga := GNm) (Gb := GA GNm (GA (GL GVr) (GA (GL GMe) (GA GNm (GL GSt))))) rfl c_Nm (opensNm m) ?_
  refine opensF_cons (off := 3) (a := kNm) (Ga := GNm) (Gb := GA (GL GVr) (GA (GL GMe) (GA GNm (GL GSt)))) rfl c_Nm (opensNm m) ?_
  refine opensF_cons (off := 5) (a := Kd.slice 152 kVr) (Ga := GL GVr) (Gb := GA (GL GMe) (GA GNm (GL GSt))) rfl (by kernel_rfl) (opensVrs m) ?_
  refine opensF_cons (off := 6) (a := Kd.slice 115 kMe) (Ga := GL GMe) (Gb := GA GNm (GL GSt)) rfl (by kernel_rfl) (opensMes m) ?_
  refine opensF_cons (off := 7) (a := kNm) (Ga := GNm) (Gb := GL GSt) rfl c_Nm (opensNm m) ?_
  exact opensF_one (off := 9) rfl (by kernel_rfl) (opensSts m)
theorem opensCls : Opens Tryz.prog (Kd.slice 36 kCl) 86 (GL GCl) := opens_slice Tryz.underlying86 c_Cl (of_decide_eq_true (by kernel_rfl)) opensCl
theorem opensLCls : Opens Tryz.prog (Kd.slice 86 (Kd.slice 36 kCl)) 22 (GL (GL GCl)) := opens_slice Tryz.underlying22 (by kernel_rfl) (of_decide_eq_true (by kernel_rfl)) opensCls
end Go.Proofs.YtbfkkepdeepdeaaGreatDoor
end
section
namespace Go.Proofs.YtbfkkepdeepdeaaGreatDoor
open Go Go.ChangeShapes Go.WideShapes Go.ChangeAt Go.RowKit
set_option linter.unusedVariables false
set_option maxRecDepth 100000
def laidL : List (String × DataW Unit) := [("math/bits.deBruijn32tab", Rows.laid_math_bits_deBruijn32tab), ("math/bits.deBruijn64tab", Rows.laid_math_bits_deBruijn64tab), ("internal/strconv.uint64pow10", Rows.laid_internal_strconv_uint64pow10), ("strconv.ErrRange", Rows.laid_strconv_ErrRange), ("strconv.ErrSyntax", Rows.laid_strconv_ErrSyntax), ("namesake/sign.words", Rows.laid_namesake_sign_words)]
theorem laid_rest {x : String × DataW Unit} {r : List (String × DataW Unit)} {w : World} (h : laidMet Tryz.prog (x :: r) w) : laidMet Tryz.prog r w := by
  obtain ⟨ps, hv, hnd, hrows⟩ := h
  obtain ⟨n, d⟩ := x
  obtain ⟨g, t, cs, fuel, p, q, _, _, _, _, hq, rfl⟩ := hv
  exact ⟨q, hq, List.Nodup.sublist (List.sublist_append_right _ _) hnd, fun b off hm => hrows b off (List.mem_append_right _ hm)⟩
theorem laid_error {n nm : String} {d : DataW Unit} {r : List (String × DataW Unit)} {W : World} {g : Nat} (h : laidMet Tryz.prog ((n, .iface nm d) :: r) W) (hg : Tryz.prog.globalNamed n = some g) (ht : (Tryz.prog.globals[g]?).map (·.type) = some 48) :
    ∃ ev, W.cell? ⟨g, 0, none⟩ = some ev ∧ (ev = .nilIface ∨ ∃ te pe, ev = .iface te pe) := by
  obtain ⟨ps, ⟨g0, t0, cs0, f0, p0, q0, hg0, ht0, hv0, hd0, -, -⟩, -⟩ := h
  obtain rfl := Option.some.inj (hg.symm.trans hg0)
  obtain rfl := Option.some.inj (ht.symm.trans ht0)
  obtain ⟨f1, u, v, hcs, -, -⟩ := iface_of_trod Tryz.underlying48 hd0
  have := World.var?_cell hg0 hv0 0
  rw [Array.eq_one_of_toList hcs] at this
  exact ⟨_, this.trans rfl, .inr ⟨u, v, rfl⟩⟩
theorem laid_words {r : List (String × DataW Unit)} {W : World} (h : laidMet Tryz.prog (("namesake/sign.words", Rows.laid_namesake_sign_words) :: r) W) :
    ∀ j, j < 18 → W.cell? ⟨0, j, none⟩ = some (.string (keyL.getD j ByteArray.empty)) := by
  obtain ⟨ps, ⟨g0, t0, cs0, f0, p0, q0, hg0, ht0, hv0, hd0, -, -⟩, -⟩ := h
  obtain rfl := Option.some.inj ((show Tryz.prog.globalNamed "namesake/sign.words" = some 0 by kernel_rfl).symm.trans hg0)
  obtain rfl := Option.some.inj ((show (Tryz.prog.globals[0]?).map (·.type) = some 354 by kernel_rfl).symm.trans ht0)
  obtain ⟨xs, m1, rfl, hx1, hlen, hn3, hel⟩ := DataW.trod_array Tryz.underlying354 hd0
  have c9 : Tryz.prog.cellsOf 9 = 1 := by kernel_rfl
  have hxs : xs.map (·.1) = keyL.map (fun s => (.lit (.string s.data.toList) : DataW Unit)) := by
    have h1 := congrArg Prod.fst hx1
    simp only at h1
    injection h1 with h1
    rw [← h1]; rfl
  intro j hj
  have h1 := hel j hj
  rw [c9, Nat.mul_one] at h1
  have hjx : j < xs.length := by omega
  rw [List.getElem?_eq_getElem hjx] at h1
  obtain ⟨s, e1, e2, -⟩ := DataW.trod_string Tryz.underlying9 h1
  have h2 : (xs.map (·.1))[j]? = some (.lit (.string s.data.toList)) := by rw [List.getElem?_map, List.getElem?_eq_getElem hjx, e2]; rfl
  have hjk : j < keyL.length := hj
  rw [hxs, List.getElem?_map, List.getElem?_eq_getElem hjk] at h2
  have h3 : keyL[j].data.toList = s.data.toList := by
    injection h2 with h2; injection h2 with h2; injection h2
  have h4 : keyL[j] = s := by
    obtain ⟨⟨a⟩⟩ := s
    generalize keyL[j] = k at h3
    obtain ⟨⟨b⟩⟩ := k
    simp only at h3
    rw [h3]
  have h5 := World.var?_cell hg0 hv0 j
  rw [h5, List.getD_eq_getElem?_getD, List.getElem?_eq_getElem hjk]
  simp only [Option.getD_some]
  rw [h4]
  have h6 : (cs0.toList.drop j).take 1 = [.string s] := e1
  have h7 : cs0.toList[j]? = some (.string s) := by
    have := congrArg (fun l => l[0]?) h6
    simpa [List.getElem?_take, List.getElem?_drop] using this
  rw [← Array.getElem?_toList]; exact h7
theorem env_of_laid {W : World} (h : laidMet Tryz.prog laidL W) (hsh : W.ShapedOpen Tryz.prog) : Env W where
  max := cell_of_shapedOpen_int (t := 3) (zero := #[.int .i64 0]) hsh (by decide +kernel) (by kernel_rfl) rfl (by kernel_rfl) (by kernel_rfl) Tryz.underlying3
  pow := by
    have h2 : laidMet Tryz.prog (("internal/strconv.uint64pow10", Lib.tabData .u64 Lib.pow10Tab) :: _) W := laid_rest (laid_rest h)
    exact Lib.tabIs_of_head pow_named (t := 375) (by kernel_rfl) Tryz.underlying375 Tryz.underlying214 (by kernel_rfl) (by kernel_rfl) h2
  syn := laid_error (laid_rest (laid_rest (laid_rest (laid_rest h)))) (by kernel_rfl) (by kernel_rfl)
  rng := laid_error (laid_rest (laid_rest (laid_rest h))) (by kernel_rfl) (by kernel_rfl)
  key := laid_words (laid_rest (laid_rest (laid_rest (laid_rest (laid_rest h)))))
theorem door_met (os : Os) (args : Array Value) : laidMetH Tryz.prog laidL ((World.doorLaid Tryz.prog 400 os).forCall (fun _ _ => 0) ⟨#[], args, []⟩).memory :=
  laidMetH_of_parts3 (fuel := 8) (laidMet_of_run' 8 (by kernel_rfl) (by kernel_rfl)) (by kernel_rfl) (by kernel_rfl)
theorem env_of_laidH {W : World} (h : laidMetH Tryz.prog laidL W) (hsh : W.ShapedOpen Tryz.prog) : Env W := by
  rw [MakeChecks.laidMetH_plain _ _ _ (by kernel_rfl)] at h
  exact env_of_laid h hsh
section
variable {H : Type} {enc : TypeId × Value → H}
theorem handed_and_shaped {a : Assume} {C : Checked} {os : Os} {f : FuncId} {fn : Func} {s : ChangeSpec} {conds : List PathCond} {apart fresh handsOn again : Bool} {X : World → Array Value → Prop}
    (hX : ∀ (w w' : World) (args : Array Value), w.heap = w'.heap → X w args → X w' args)
    (own : ownKnob C.prog.godebug = none) (started : os.Started) (noInit : C.prog.inits.idxOf? f = none) (hfn : C.prog.funcs[f]? = some fn)
    (witness : ∃ (w : World) (tape : Tape) (i : Input), w.os = os ∧ (w.forCall tape i).Shaped C.prog ∧ i.vars = [] ∧ Input.okWide C.prog (w.forCall tape i) .any w.heap.size f i ∧
      ((s.pre enc C.prog fn conds apart (w.forCall tape i).memory i.args ∧ X (w.forCall tape i).memory i.args) ∧ sizedMet enc C.prog fn (OpenSpec.ofChange s) apart (w.forCall tape i).memory i.args) ∧ a.holds C.prog (lone (Frame.enter C.prog f i.args .normal) [] (w.forCall tape i)))
    (contract : ∀ (W : World) (base : Nat) (args : Array Value) (ds gs : List (DataW H)) (before : List MemPlace),
      (∀ (j : Nat) t v, fn.params[j]? = some t → args[j]? = some v → Value.okWide C.prog W .any base t v) →
      DataW.Whole enc C.prog fn.params.toList s.vars apart W args.toList ds gs before → (DataW.weightsEach C.prog (fn.params.toList ++ s.plain.varTypes C.prog) (ds ++ gs)).all (· ≤ reachBytes) = true → X W args → W.ShapedOpen C.prog →
      Calls C.prog f args W fun e W' => ∃ v, e = .returned v ∧ s.post enc C.prog fn apart fresh handsOn again W args v W') :
    ReturnsInHanded a C os f .any (fun w args => (s.pre enc C.prog fn conds apart w args ∧ X w args) ∧ sizedMet enc C.prog fn (OpenSpec.ofChange s) apart w args) (s.post enc C.prog fn apart fresh handsOn again) := by
  refine returnsInHanded_of_calls own started noInit witness ?_
  intro w tape i _ hsh _ hok hpre _
  obtain ⟨_, _, _, fn', hfn', _, _, _, _, hval⟩ := hok
  obtain rfl : fn' = fn := Option.some.inj (hfn'.symm.trans hfn)
  obtain ⟨⟨⟨ds, gs, before, hw, -⟩, hx⟩, hz⟩ := hpre
  have hw' := DataW.Whole.of_heap (w' := w.forCall tape i) (by rfl) hw
  refine (contract (w.forCall tape i) w.heap.size i.args ds gs before hval hw' (hz.weights hw) (hX _ _ _ (by rfl) hx) hsh).mono fun e W' ⟨v, he, hp⟩ => ?_
  subst he
  exact ChangeSpec.post_blind hp
end
end Go.Proofs.YtbfkkepdeepdeaaGreatDoor
end
section
namespace Go.Proofs.YtbfkkepdeepdeaaGreatDoor
open Go Go.RowKit Go.Proofs.YtbfkkepdeepdeaaGreatDoorW.PrintWords Go.Proofs.YtbfkkepdeepdeaaGreatDoorW.PrintLast Go.Proofs.YtbfkkepdeepdeaaGreatDoorW.PrintMore
set_option linter.unusedVariables false
set_option linter.unusedSimpArgs false
set_option maxRecDepth 100000
attribute [local go_sem] Oper.semAt_some
def szP (x v : Int) : Prop := v ≤ 1073741824 ∧ (-281474976710656 ≤ v ∨ x - 281474976710656 ≤ v)
def szI (x : Int) : Prop := -36028797018963968 ≤ x ∧ x ≤ 1073741824
theorem lenB {s : ByteArray} (h : s.size ≤ reachBytes) : (s.size : Int) ≤ 140737488351232 := by
  have : reachBytes = 140737488351232 := rfl
  omega
theorem vars_calls {w : World} {A : Option Addr} {n c : Nat} {l : List Vr} (hC : Kd.C kVr w A n l) (hG : ∀ y ∈ l, GVr y) (x : Int) (hx : szI x) :
    Calls Tryz.prog 41 #[.slice A n c, .int .i64 x] w fun e w' => ∃ v, e = .returned (.int .i64 v) ∧ szP x v ∧ Below w.heap.size w w' := by
  have hn := hC.1
  have hm := hC.2.1
  have HC := Lib.hid hC
  have HG := Lib.hid hG
  have HN := Lib.hid hn
  have HX := Lib.hid hx
  clear hC hG hn hx
  go_enter Tryz.func41, Tryz.ntmps41
  go_wp2_with fail
  go_loopw [1, 9] (fun v k wr => ∃ (i : Nat) (y : Int), k = .int .i64 i ∧ i ≤ n ∧ v = .int .i64 y ∧ Hid (y = x ∨ 0 ≤ y) ∧ Hid (y ≤ 1073741824) ∧ Hid (Below w.heap.size w wr)) (fun v k _ => n - (intOf k).toNat)
  case atStart => exact ⟨0, x, rfl, Nat.zero_le _, rfl, Lib.hid (.inl rfl), Lib.hid HX.out.2, Lib.hid (Below.refl _ _)⟩
  case round =>
    obtain ⟨i, y, rfl, hin, rfl, hy, hyB, hb⟩ := hrel
    by_cases hlt : i < n
    · have hlti : (i : Int) < (n : Int) := by omega
      obtain ⟨ad, e, c0, c1, c2, c3, c4, c5⟩ := kVr_at (fun a v h => cell_later hb.out h) HC.out i hlt
      subst e
      obtain ⟨z, hz⟩ : ∃ z, z = l.getD i zVr := ⟨_, rfl⟩
      rw [← hz] at c0 c1 c2 c3 c4 c5
      have hzG : GVr z := by
        have hil : i < l.length := by have := HN.out; omega
        rw [hz, List.getD_eq_getElem?_getD, List.getElem?_eq_getElem hil]
        exact HG.out _ (List.getElem_mem hil)
      have l1 := lenB hzG.1
      have l2 := lenB hzG.2
      have hyl : -36028797018963968 ≤ y := by
        rcases hy.out with h | h
        · rw [h]; exact HX.out.1
        · omega
      have HW := Lib.hid (show wrap64 (y - (1 + ((z.typ.text.size : Int) + (z.name.text.size : Int)) / 50)) ≤ 1073741824 by
        have := hyB.out
        unfold wrap64
        omega)
      have HB := Lib.hid ((hb.out).alloc (by have := hb.out.size; omega) (.cells #[.string z.typ.text, .int .i64 z.typ.pos, .string z.name.text, .int .i64 z.name.pos, .int .i64 z.fr, .int .i64 z.to] 152))
      clear hz hzG hyl
      go_wp2_with fail
      · go_ret
        exact ⟨-1, rfl, ⟨by decide, .inl (by decide)⟩, HB.out⟩
      · rename_i h0
        exact ⟨⟨i + 1, _, by simp, by omega, rfl, Lib.hid (.inr h0), HW, HB⟩, by simp only [intOf]; omega⟩
    · have hge : (n : Int) ≤ (i : Int) := by omega
      go_wp2_with fail
      go_ret
      refine ⟨y, rfl, ⟨hyB.out, ?_⟩, hb.out⟩
      rcases hy.out with h | h <;> omega
theorem exp13_calls {x : Ex} (hG : GEx x) : ∀ {w : World} {A : Option Addr} {c : Nat} (left : Int), kEx.C w A x.kids.length x.kids → szI left →
    Calls Tryz.prog 42 #[.agg (aEx x A c), .int .i64 left] w fun e w' => ∃ v, e = .returned (.int .i64 v) ∧ szP left v ∧ Below w.heap.size w w' := by
  induction hG with
  | mk x h1 h2 h3 ih =>
  intro w A c left hC hx
  have hm := hC.2.1
  obtain ⟨n, hn⟩ : ∃ n, n = x.kids.length := ⟨_, rfl⟩
  rw [← hn] at hC hm
  have l1 := lenB h1
  have HIH := Lib.hid ih
  have HN := Lib.hid hn
  have HX := Lib.hid hx
  obtain ⟨w1, hw1⟩ : ∃ w1, w1 = w.alloc (.cells (aEx x A c) 113) := ⟨_, rfl⟩
  have hA1 : Below w.heap.size w w1 := by rw [hw1]; exact (Below.refl _ _).alloc (Nat.le_refl _) _
  have HA := Lib.hid hA1
  have HC := Lib.hid (Kd.C_below hC hA1)
  obtain ⟨y0, hy0⟩ : ∃ y0, y0 = wrap64 (left - (1 + (x.name.text.size : Int) / 50)) := ⟨_, rfl⟩
  have HY0 := Lib.hid (show y0 ≤ 1073741824 ∧ left - 281474976710656 ≤ y0 by
    have h1 := hx.1
    have h2 := hx.2
    have h3 : (0 : Int) ≤ (x.name.text.size : Int) / 50 := by omega
    rw [hy0]
    unfold wrap64
    omega)
  have haEx : aEx x A c = #[.int .i64 x.kind, .string x.name.text, .int .i64 x.name.pos, .int .i64 x.num, .int .i64 x.fr, .int .i64 x.to, .slice A n c] := by rw [hn]
  rw [haEx] at hw1 ⊢
  clear hx ih h1 h2 h3 hC hn hA1 haEx
  go_enter Tryz.func42, Tryz.ntmps42
  go_wp2_with fail
  rw [← hw1, ← hy0]
  clear hw1 hy0 l1
  go_loopw [1, 18] (fun v k wr => ∃ (i : Nat) (y : Int), k = .int .i64 i ∧ i ≤ n ∧ v = .int .i64 y ∧ Hid (y = y0 ∨ -281474976710656 ≤ y) ∧ Hid (y ≤ 1073741824) ∧ Hid (Below w1.heap.size w1 wr)) (fun v k _ => n - (intOf k).toNat)
  case atStart => exact ⟨0, y0, rfl, Nat.zero_le _, rfl, Lib.hid (.inl rfl), Lib.hid HY0.out.1, Lib.hid (Below.refl _ _)⟩
  case round =>
    obtain ⟨i, y, rfl, hin, rfl, hy, hyB, hb⟩ := hrel
    by_cases hlt : i < n
    · have hlti : (i : Int) < (n : Int) := by omega
      obtain ⟨ad, A6, c6, e, c0, c1, c2, c3, c4, c5, c7, hl6, hC6⟩ := kEx_at (fun a v h => cell_later hb.out h) HC.out i hlt
      subst e
      obtain ⟨z, hz⟩ : ∃ z, z = x.kids.getD i zEx := ⟨_, rfl⟩
      rw [← hz] at c0 c1 c2 c3 c4 c5 c7 hl6 hC6
      have hzm : z ∈ x.kids := by
        have hil : i < x.kids.length := by have := HN.out; omega
        rw [hz, List.getD_eq_getElem?_getD, List.getElem?_eq_getElem hil]
        exact List.getElem_mem hil
      have hB4 : Below wr.heap.size wr (wr.alloc (.cells (aEx z A6 c6) 113)) := (Below.refl _ _).alloc (Nat.le_refl _) _
      have HB4 := Lib.hid (below_step hb.out hB4)
      by_cases hneg : y < 0
      · clear hz hzm hC6 hB4
        go_wp2_with fail
        go_ret
        exact ⟨-1, rfl, ⟨by decide, .inl (by decide)⟩, below_step HA.out HB4.out⟩
      · have hpos : 0 ≤ y := by omega
        have HCALL := Lib.hid (HIH.out z hzm (c := c6) y (Kd.C_below hC6 HB4.out) ⟨by omega, hyB.out⟩)
        clear hz hzm hC6 hB4
        go_wp2_with fail
        refine HCALL.out.mono ?_
        rintro e w5 ⟨v, rfl, ⟨hv1, hv2⟩, h5⟩
        have HV := Lib.hid (show v = y0 ∨ -281474976710656 ≤ v from .inr (by omega))
        have HV1 := Lib.hid hv1
        have HB5 := Lib.hid (below_step HB4.out h5)
        clear hv1 hv2 h5 HCALL
        go_wp2_with fail
        exact ⟨⟨i + 1, v, by simp, by omega, rfl, HV, HV1, HB5⟩, by simp only [intOf]; omega⟩
    · have hge : (n : Int) ≤ (i : Int) := by omega
      go_wp2_with fail
      go_ret
      refine ⟨y, rfl, ⟨hyB.out, ?_⟩, below_step HA.out hb.out⟩
      have := HY0.out.2
      rcases hy.out with h | h <;> omega
def KidsOk (s : St) : Prop := ∀ (w : World) (A : Option Addr) (c : Nat) (left : Int), kSt.C w A s.kids.length s.kids → szI left →
    Calls Tryz.prog 40 #[.slice A s.kids.length c, .int .i64 left] w fun e w' => ∃ v, e = .returned (.int .i64 v) ∧ szP left v ∧ Below w.heap.size w w'
theorem stmts_list {l : List St} (hG : ∀ s ∈ l, GSt s) (hK : ∀ s ∈ l, KidsOk s) {w : World} {A : Option Addr} {n c : Nat} (left : Int) (hC : kSt.C w A n l) (hx : szI left) :
    Calls Tryz.prog 40 #[.slice A n c, .int .i64 left] w fun e w' => ∃ v, e = .returned (.int .i64 v) ∧ szP left v ∧ Below w.heap.size w w' := by
  have hm := hC.2.1
  have HN := Lib.hid hC.1
  have HC := Lib.hid hC
  have HG := Lib.hid hG
  have HK := Lib.hid hK
  have HX := Lib.hid hx
  clear hC hG hK hx
  go_enter Tryz.func40, Tryz.ntmps40
  go_wp2_with fail
  go_loopw [1, 11] (fun v k wr => ∃ (i : Nat) (y : Int), k = .int .i64 i ∧ i ≤ n ∧ v = .int .i64 y ∧ Hid (y = left ∨ -281474976710656 ≤ y) ∧ Hid (y ≤ 1073741824) ∧ Hid (Below w.heap.size w wr)) (fun v k _ => n - (intOf k).toNat)
  case atStart => exact ⟨0, left, rfl, Nat.zero_le _, rfl, Lib.hid (.inl rfl), Lib.hid HX.out.2, Lib.hid (Below.refl _ _)⟩
  case round =>
    obtain ⟨i, y, rfl, hin, rfl, hy, hyB, hb⟩ := hrel
    by_cases hlt : i < n
    · have hlti : (i : Int) < (n : Int) := by omega
      obtain ⟨ad, A5, c5, A6, c6, e, d0, d1, d2, d3, d4, d5, d6, hl5, hC5, hl6, hC6⟩ := kSt_at (fun a v h => cell_later hb.out h) HC.out i hlt
      subst e
      obtain ⟨z, hz⟩ : ∃ z, z = l.getD i zSt := ⟨_, rfl⟩
      rw [← hz] at d0 d1 d2 d3 d4 d5 d6 hl5 hC5 hl6 hC6
      have hzm : z ∈ l := by
        have hil : i < l.length := by have := HN.out; omega
        rw [hz, List.getD_eq_getElem?_getD, List.getElem?_eq_getElem hil]
        exact List.getElem_mem hil
      have hzG := HG.out z hzm
      have hzK := Lib.hid (HK.out z hzm)
      obtain ⟨g1, g2⟩ : z.name.text.size ≤ reachBytes ∧ ∀ e ∈ z.exps, GEx e := by cases hzG with | mk _ h1 h2 h3 h4 => exact ⟨h1, h2.2⟩
      have l1 := lenB g1
      obtain ⟨w4, hw4⟩ : ∃ w4, w4 = wr.alloc (.cells (aSt z A5 c5 A6 c6) 150) := ⟨_, rfl⟩
      have hB4 : Below wr.heap.size wr w4 := by rw [hw4]; exact (Below.refl _ _).alloc (Nat.le_refl _) _
      have HN4 := Lib.hid (show w4.heap[wr.heap.size]? = some (.cells (aSt z A5 c5 A6 c6) 150 (0, 0)) by rw [hw4]; exact World.alloc_heap_new wr _)
      have HB4 := Lib.hid (below_step hb.out hB4)
      have HC5 := Lib.hid (Kd.C_below hC5 HB4.out)
      have HC6 := Lib.hid (Kd.C_below hC6 HB4.out)
      have hm5 := hC5.2.1
      obtain ⟨y0, hy0⟩ : ∃ y0, y0 = wrap64 (y - (1 + (z.name.text.size : Int) / 50)) := ⟨_, rfl⟩
      have HY0 := Lib.hid (show y0 ≤ 1073741824 by
        have h1 := HX.out.1
        have h2 := hyB.out
        have h4 : -36028797018963968 ≤ y := by rcases hy.out with h | h <;> omega
        rw [hy0]
        unfold wrap64
        omega)
      have HG2 := Lib.hid g2
      obtain ⟨m, hm2⟩ : ∃ m, m = z.exps.length := ⟨_, rfl⟩
      obtain ⟨q, hq2⟩ : ∃ q, q = z.kids.length := ⟨_, rfl⟩
      have haSt : aSt z A5 c5 A6 c6 = #[.int .i64 z.kind, .string z.name.text, .int .i64 z.name.pos, .int .i64 z.fr, .int .i64 z.to, .slice A5 m c5, .slice A6 q c6] := by rw [hm2, hq2]
      rw [← hm2] at d5 HC5 hl5 hm5
      rw [← hq2] at d6 hl6
      rw [haSt] at HN4 hw4
      have HM2 := Lib.hid hm2
      have HQ2 := Lib.hid hq2
      clear hz hzm hzG g1 g2 hC5 hC6 hB4 hm2 hq2 haSt
      go_wp2_with fail
      rw [← hw4, ← hy0]
      clear hw4 hy0 l1
      obtain ⟨bs, hbs⟩ : ∃ b, b = wr.heap.size := ⟨_, rfl⟩
      rw [← hbs] at HN4 ⊢
      clear hbs
      have hz4 : bs < w4.heap.size := (Array.getElem?_eq_some_iff.1 HN4.out).1
      go_loopw [1, 26] (fun v k wq => ∃ (j : Nat) (u : Int), k = .int .i64 j ∧ j ≤ m ∧ v = .int .i64 u ∧ Hid (u ≤ 1073741824) ∧ Hid (Below w4.heap.size w4 wq)) (fun v k _ => m - (intOf k).toNat)
      case atStart => exact ⟨0, y0, rfl, Nat.zero_le _, rfl, HY0, Lib.hid (Below.refl _ _)⟩
      case round =>
        obtain ⟨j, u, rfl, hjm, rfl, huB, hbq⟩ := hrel
        by_cases hjt : j < m
        · have hjti : (j : Int) < (m : Int) := by omega
          obtain ⟨ae, A7, c7, e, e0, e1, e2, e3, e4, e5, e6, hl7, hC7⟩ := kEx_at (fun a v h => cell_later hbq.out h) HC5.out j hjt
          subst e
          obtain ⟨t, ht⟩ : ∃ t, t = z.exps.getD j zEx := ⟨_, rfl⟩
          rw [← ht] at e0 e1 e2 e3 e4 e5 e6 hl7 hC7
          have htm : t ∈ z.exps := by
            have hjl : j < z.exps.length := by have := HM2.out; omega
            rw [ht, List.getD_eq_getElem?_getD, List.getElem?_eq_getElem hjl]
            exact List.getElem_mem hjl
          have hB8 : Below wr.heap.size wr (wr.alloc (.cells (aEx t A7 c7) 113)) := (Below.refl _ _).alloc (Nat.le_refl _) _
          have HB8 := Lib.hid (below_step hbq.out hB8)
          by_cases hneg : u < 0
          · clear ht htm hC7 hB8
            go_wp2_with fail
            go_ret
            exact ⟨-1, rfl, ⟨by decide, .inl (by decide)⟩, below_step HB4.out HB8.out⟩
          · have hpos : 0 ≤ u := by omega
            have HCALL := Lib.hid (exp13_calls (HG2.out t htm) (c := c7) u (Kd.C_below hC7 HB8.out) ⟨by omega, huB.out⟩)
            clear ht htm hC7 hB8
            go_wp2_with fail
            refine HCALL.out.mono ?_
            rintro e w5 ⟨v, rfl, ⟨hv1, hv2⟩, h5⟩
            have HV1 := Lib.hid hv1
            have HB5 := Lib.hid (below_step HB8.out h5)
            clear hv1 hv2 h5 HCALL
            go_wp2_with fail
            exact ⟨⟨j + 1, v, by simp, by omega, rfl, HV1, HB5⟩, by simp only [intOf]; omega⟩
        · have hge : (m : Int) ≤ (j : Int) := by omega
          have HB8 := Lib.hid (below_step HB4.out hbq.out)
          by_cases hneg : u < 0
          · go_wp2_with fail
            go_ret
            exact ⟨-1, rfl, ⟨by decide, .inl (by decide)⟩, HB8.out⟩
          · have hpos : 0 ≤ u := by omega
            have HX4 := Lib.hid ((hbq.out.block bs hz4).trans HN4.out)
            have x6 := (cell_blk HX4.out 6).trans rfl
            have HCALL := Lib.hid (hzK.out wr A6 c6 u (Kd.C_below (by rw [← HQ2.out] at HC6; rw [← HQ2.out]; exact HC6.out) hbq.out) ⟨by omega, huB.out⟩)
            rw [← HQ2.out] at HCALL
            go_wp2_with fail
            refine HCALL.out.mono ?_
            rintro e w5 ⟨v, rfl, ⟨hv1, hv2⟩, h5⟩
            have HV := Lib.hid (show v = left ∨ -281474976710656 ≤ v from .inr (by omega))
            have HV1 := Lib.hid hv1
            have HB5 := Lib.hid (below_step HB8.out h5)
            clear hv1 hv2 h5 HCALL
            go_wp2_with fail
            exact ⟨⟨i + 1, v, by simp, by omega, rfl, HV, HV1, HB5⟩, by simp only [intOf]; omega⟩
    · have hge : (n : Int) ≤ (i : Int) := by omega
      go_wp2_with fail
      go_ret
      refine ⟨y, rfl, ⟨hyB.out, ?_⟩, hb.out⟩
      rcases hy.out with h | h <;> omega
end Go.Proofs.YtbfkkepdeepdeaaGreatDoor
end
section
namespace Go.Proofs.YtbfkkepdeepdeaaGreatDoor
open Go Go.RowKit Go.Proofs.YtbfkkepdeepdeaaGreatDoorW.PrintWords Go.Proofs.YtbfkkepdeepdeaaGreatDoorW.PrintLast Go.Proofs.YtbfkkepdeepdeaaGreatDoorW.PrintMore
set_option linter.unusedVariables false
set_option linter.unusedSimpArgs false
set_option maxRecDepth 100000
attribute [local go_sem] Oper.semAt_some
theorem kids_ok {s : St} (hG : GSt s) : KidsOk s := by
  induction hG with
  | mk x h1 h2 h3 h4 ih => exact fun w A c left hC hx => stmts_list h4 ih left hC hx
theorem stmts13_calls {l : List St} (hG : ∀ s ∈ l, GSt s) {w : World} {A : Option Addr} {n c : Nat} (left : Int) (hC : kSt.C w A n l) (hx : szI left) :
    Calls Tryz.prog 40 #[.slice A n c, .int .i64 left] w fun e w' => ∃ v, e = .returned (.int .i64 v) ∧ szP left v ∧ Below w.heap.size w w' := stmts_list hG (fun s hs => kids_ok (hG s hs)) left hC hx
set_option maxHeartbeats 4000000 in
theorem Size_calls {l : List Cl} (hG : ∀ s ∈ l, GCl s) {w : World} {A : Option Addr} {n c : Nat} (left : Int) (hC : kCl.C w A n l) (h0 : 0 ≤ left) (h1 : left ≤ 1073741824) :
    Calls Tryz.prog 29 #[.slice A n c, .int .i64 left] w fun e w' => ∃ v, e = .returned (.int .i64 v) ∧ Below w.heap.size w w' := by
  have hm := hC.2.1
  have HN := Lib.hid hC.1
  have HC := Lib.hid hC
  have HG := Lib.hid hG
  clear hC hG
  go_enter Tryz.func29, Tryz.ntmps29
  go_wp2_with fail
  go_loopw [1, 11] (fun v k wr => ∃ (i : Nat) (y : Int), k = .int .i64 i ∧ i ≤ n ∧ v = .int .i64 y ∧ Hid (0 ≤ y ∧ y ≤ 1073741824) ∧ Hid (Below w.heap.size w wr)) (fun v k _ => n - (intOf k).toNat)
  case atStart => exact ⟨0, left, rfl, Nat.zero_le _, rfl, Lib.hid ⟨h0, h1⟩, Lib.hid (Below.refl _ _)⟩
  case round =>
    obtain ⟨i, y, rfl, hin, rfl, hy, hb⟩ := hrel
    by_cases hlt : i < n
    · have hlti : (i : Int) < (n : Int) := by omega
      obtain ⟨ad, A3, c3, A4, c4, A6, c6, e, d0, d1, d2, d3, d4, d5, d6, d7, d8, d9, hl3, hC3, hl4, hC4, hl6, hC6⟩ := kCl_at (fun a v h => cell_later hb.out h) HC.out i hlt
      subst e
      obtain ⟨z, hz⟩ : ∃ z, z = l.getD i zCl := ⟨_, rfl⟩
      rw [← hz] at d0 d1 d2 d3 d4 d5 d6 d7 d8 d9 hl3 hC3 hl4 hC4 hl6 hC6
      have hzm : z ∈ l := by
        have hil : i < l.length := by have := HN.out; omega
        rw [hz, List.getD_eq_getElem?_getD, List.getElem?_eq_getElem hil]
        exact List.getElem_mem hil
      obtain ⟨g1, g2, g3, g4, g5, g6⟩ := HG.out z hzm
      have l1 := lenB g1
      have l2 := lenB g2
      have l3 := lenB g5
      obtain ⟨w4, hw4⟩ : ∃ w4, w4 = wr.alloc (.cells (aCl z A3 c3 A4 c4 A6 c6) 36) := ⟨_, rfl⟩
      have hB4 : Below wr.heap.size wr w4 := by rw [hw4]; exact (Below.refl _ _).alloc (Nat.le_refl _) _
      have HN4 := Lib.hid (show w4.heap[wr.heap.size]? = some (.cells (aCl z A3 c3 A4 c4 A6 c6) 36 (0, 0)) by rw [hw4]; exact World.alloc_heap_new wr _)
      have HB4 := Lib.hid (below_step hb.out hB4)
      have HC3 := Lib.hid (Kd.C_below hC3 HB4.out)
      have HC4 := Lib.hid (Kd.C_below hC4 HB4.out)
      have HC6 := Lib.hid (Kd.C_below hC6 HB4.out)
      have HG3 := Lib.hid g3.2
      have HG4 := Lib.hid g4.2
      have HG6 := Lib.hid g6.2
      clear hz hzm g1 g2 g3 g4 g5 g6 hC3 hC4 hC6 hB4
      go_upto_region 4 with (fail)
      rw [← hw4]
      clear hw4
      obtain ⟨w5, hw5⟩ : ∃ w5, w5 = w4.drew := ⟨_, rfl⟩
      have HB5 := Lib.hid (show Below w4.heap.size w4 w5 by rw [hw5]; exact below_drew1 w4)
      have hz4 : wr.heap.size < w4.heap.size := (Array.getElem?_eq_some_iff.1 HN4.out).1
      have hX5 := (HB5.out.block wr.heap.size hz4).trans HN4.out
      have S5 : w5.cell? ⟨wr.heap.size, 1, none⟩ = some (.string z.name.text) ∧ w5.cell? ⟨wr.heap.size, 3, none⟩ = some (.string z.super.text) ∧ w5.cell? ⟨wr.heap.size, 5, none⟩ = some (.slice A3 z.fields.length c3) ∧ w5.cell? ⟨wr.heap.size, 7, none⟩ = some (.string z.arg.text) ∧ w5.cell? ⟨wr.heap.size, 9, none⟩ = some (.slice A6 z.body.length c6) :=
        ⟨(cell_blk hX5 1).trans rfl, (cell_blk hX5 3).trans rfl, (cell_blk hX5 5).trans rfl, (cell_blk hX5 7).trans rfl, (cell_blk hX5 9).trans rfl⟩
      have hyl := hy.out.1
      have hyu := hy.out.2
      rw [hw5] at S5
      refine wp_region_ord (fun W => W.cell? ⟨wr.heap.size, 1, none⟩ = some (.string z.name.text) ∧ W.cell? ⟨wr.heap.size, 3, none⟩ = some (.string z.super.text) ∧ W.cell? ⟨wr.heap.size, 5, none⟩ = some (.slice A3 z.fields.length c3) ∧ W.cell? ⟨wr.heap.size, 7, none⟩ = some (.string z.arg.text) ∧ W.cell? ⟨wr.heap.size, 9, none⟩ = some (.slice A6 z.body.length c6))
        [(0, true), (1, false), (2, true), (3, false), (4, true), (5, true), (6, true), (7, true), (8, false), (9, true), (10, true), (11, true), (12, false), (13, true), (14, true), (15, true), (16, true), (17, false), (18, true), (19, true), (20, true), (21, true)] [22] [23, 24] (by kernel_rfl) (by kernel_rfl) (fun _ _ _ _ h => h) S5 (fun K hK => ?_)
      rw [← hw5] at hK S5
      clear hw5
      simp only [pickHead, List.getElem?_cons_succ, List.getElem?_cons_zero]
      repeat (first
        | (refine ordHead_pure rfl rfl ?_; apply Exists.intro; refine ⟨fun w' => ?_, ?_⟩; (go_simp; with_reducible rfl); apply Exists.intro; refine ⟨?_, ?_⟩; (simp only [Act.put, List.setIfInBounds_toArray, List.set_cons_zero, List.set_cons_succ]; rfl))
        | (refine ordHead_read rfl rfl ?_; apply Exists.intro; refine ⟨?_, ?_⟩; (rintro w' ⟨z0, z1, z2, z3, z4⟩; go_simp; with_reducible rfl); apply Exists.intro; refine ⟨?_, ?_⟩; (simp only [Act.put, List.setIfInBounds_toArray, List.set_cons_zero, List.set_cons_succ]; rfl)))
      refine ordHead_nil (hK _ ?_)
      simp only [pickOps, ordTail, List.getElem?_cons_succ, List.getElem?_cons_zero]
      have hx1 : szI (y - 1 - ((z.name.text.size : Int) + (z.super.text.size : Int) + (z.arg.text.size : Int)) / 50) := by constructor <;> omega
      have HX1 := Lib.hid (show -100000000000000 ≤ y - 1 - ((z.name.text.size : Int) + (z.super.text.size : Int) + (z.arg.text.size : Int)) / 50 by omega)
      have HV := Lib.hid (vars_calls (c := c3) (Kd.C_below HC3.out HB5.out) HG3.out _ hx1)
      clear hx1
      go_wp2_with fail
      refine HV.out.mono ?_
      rintro e w6 ⟨v1, rfl, ⟨hv1, hv2⟩, h6⟩
      have hx2 : szI v1 := by have := HX1.out; constructor <;> omega
      have HX2 := Lib.hid (show -1000000000000000 ≤ v1 by have := HX1.out; omega)
      have HB6 := Lib.hid (below_step HB5.out h6)
      have S6 : w6.cell? ⟨wr.heap.size, 1, none⟩ = some (.string z.name.text) ∧ w6.cell? ⟨wr.heap.size, 3, none⟩ = some (.string z.super.text) ∧ w6.cell? ⟨wr.heap.size, 5, none⟩ = some (.slice A3 z.fields.length c3) ∧ w6.cell? ⟨wr.heap.size, 7, none⟩ = some (.string z.arg.text) ∧ w6.cell? ⟨wr.heap.size, 9, none⟩ = some (.slice A6 z.body.length c6) :=
        ⟨cell_later h6 S5.1, cell_later h6 S5.2.1, cell_later h6 S5.2.2.1, cell_later h6 S5.2.2.2.1, cell_later h6 S5.2.2.2.2⟩
      have HS := Lib.hid (stmts13_calls HG6.out (c := c6) v1 (Kd.C_below HC6.out HB6.out) hx2)
      clear S5 hv1 hv2 h6 hx2 HV
      go_wp2_with fail
      refine HS.out.mono ?_
      rintro e w7 ⟨v2, rfl, ⟨hv1, hv2⟩, h7⟩
      have HX3 := Lib.hid (show -10000000000000000 ≤ v2 ∧ v2 ≤ 1073741824 by have := HX2.out; omega)
      have HB7 := Lib.hid (below_step HB6.out h7)
      have x4 : w7.cell? ⟨wr.heap.size, 6, none⟩ = some (.slice A4 z.methods.length c4) := (cell_blk ((HB7.out.block wr.heap.size hz4).trans HN4.out) 6).trans rfl
      have hm4 := HC4.out.2.1
      clear S6 hv1 hv2 h7 HS hX5
      obtain ⟨bs, hbs⟩ : ∃ b, b = wr.heap.size := ⟨_, rfl⟩
      rw [← hbs] at HN4 hz4 x4 ⊢
      have HB47 := Lib.hid (below_step HB4.out HB7.out)
      obtain ⟨m, hm2⟩ : ∃ m, m = z.methods.length := ⟨_, rfl⟩
      rw [← hm2] at x4 HC4 hl4 hm4
      have HM2 := Lib.hid hm2
      clear hbs hm2
      go_wp2_with fail
      go_loopw [1, 42] (fun v k wq => ∃ (j : Nat) (u : Int), k = .int .i64 j ∧ j ≤ m ∧ v = .int .i64 u ∧ Hid (-100000000000000000 ≤ u ∧ u ≤ 1073741824) ∧ Hid (Below w7.heap.size w7 wq)) (fun v k _ => m - (intOf k).toNat)
      case atStart => exact ⟨0, v2, rfl, Nat.zero_le _, rfl, Lib.hid (by have := HX3.out; omega), Lib.hid (Below.refl _ _)⟩
      case round =>
        obtain ⟨j, u, rfl, hjm, rfl, hu, hbq⟩ := hrel
        by_cases hjt : j < m
        · have hjti : (j : Int) < (m : Int) := by omega
          obtain ⟨am, B0, e0, B1, e1, B2, e2, B3, e3, e, m0, m1, m2, m3, m4, m5, m6, m7, m8, m9, m10, m11, m12, m13, hk0, hD0, hk1, hD1, hk2, hD2, hk3, hD3⟩ := kMe_at (fun a v h => cell_later (below_step HB7.out hbq.out) h) HC4.out j hjt
          subst e
          obtain ⟨q, hq⟩ : ∃ q, q = z.methods.getD j zMe := ⟨_, rfl⟩
          rw [← hq] at m0 m1 m2 m3 m4 m5 m6 m7 m8 m9 m10 m11 m12 m13 hk0 hD0 hk1 hD1 hk2 hD2 hk3 hD3
          have hqm : q ∈ z.methods := by
            have hjl : j < z.methods.length := by have := HM2.out; omega
            rw [hq, List.getD_eq_getElem?_getD, List.getElem?_eq_getElem hjl]
            exact List.getElem_mem hjl
          obtain ⟨g1, g2, g3, g4, g5, g6⟩ := HG4.out q hqm
          have l4 := lenB g1
          have l5 := lenB g2
          have HG31 := Lib.hid g3.2
          have HG41 := Lib.hid g4.2
          have HG51 := Lib.hid g5.2
          have HG61 := Lib.hid g6
          obtain ⟨w8, hw8⟩ : ∃ w8, w8 = wr.alloc (.cells (aMe q B0 e0 B1 e1 B2 e2 B3 e3) 115) := ⟨_, rfl⟩
          have hB8 : Below wr.heap.size wr w8 := by rw [hw8]; exact (Below.refl _ _).alloc (Nat.le_refl _) _
          have HN8 := Lib.hid (show w8.heap[wr.heap.size]? = some (.cells (aMe q B0 e0 B1 e1 B2 e2 B3 e3) 115 (0, 0)) by rw [hw8]; exact World.alloc_heap_new wr _)
          have HB8 := Lib.hid (below_step (below_step HB7.out hbq.out) hB8)
          have HB78 := Lib.hid (below_step hbq.out hB8)
          have hz8 : wr.heap.size < w8.heap.size := (Array.getElem?_eq_some_iff.1 HN8.out).1
          have HD0 := Lib.hid (Kd.C_below hD0 HB8.out)
          have HD1 := Lib.hid (Kd.C_below hD1 HB8.out)
          have HD2 := Lib.hid (Kd.C_below hD2 HB8.out)
          have HD3 := Lib.hid (Kd.C_below hD3 HB8.out)
          clear hq hqm g1 g2 g3 g4 g5 g6 hD0 hD1 hD2 hD3 hB8
          by_cases hneg : u < 0
          · go_wp2_with fail
            go_ret
            rw [← hw8]
            exact ⟨-1, rfl, below_step HB47.out HB78.out⟩
          · have hpos : 0 ≤ u := by omega
            have huB := hu.out.2
            go_upto_region 10 with (fail)
            rw [← hw8]
            clear hw8
            obtain ⟨w9, hw9⟩ : ∃ w9, w9 = w8.drew := ⟨_, rfl⟩
            have HB9 := Lib.hid (show Below w8.heap.size w8 w9 by rw [hw9]; exact below_drew1 w8)
            have hX9 := (HB9.out.block wr.heap.size hz8).trans HN8.out
            have S9 : w9.cell? ⟨wr.heap.size, 0, none⟩ = some (.string q.typ.text) ∧ w9.cell? ⟨wr.heap.size, 2, none⟩ = some (.string q.name.text) ∧ w9.cell? ⟨wr.heap.size, 4, none⟩ = some (.slice B0 q.params.length e0) ∧ w9.cell? ⟨wr.heap.size, 5, none⟩ = some (.slice B1 q.vars.length e1) ∧ w9.cell? ⟨wr.heap.size, 6, none⟩ = some (.slice B2 q.body.length e2) ∧ w9.cell? ⟨wr.heap.size, 7, none⟩ = some (.int .i64 q.ret.kind) ∧ w9.cell? ⟨wr.heap.size, 8, none⟩ = some (.string q.ret.name.text) ∧ w9.cell? ⟨wr.heap.size, 9, none⟩ = some (.int .i64 q.ret.name.pos) ∧ w9.cell? ⟨wr.heap.size, 10, none⟩ = some (.int .i64 q.ret.num) ∧ w9.cell? ⟨wr.heap.size, 11, none⟩ = some (.int .i64 q.ret.fr) ∧ w9.cell? ⟨wr.heap.size, 12, none⟩ = some (.int .i64 q.ret.to) ∧ w9.cell? ⟨wr.heap.size, 13, none⟩ = some (.slice B3 q.ret.kids.length e3) :=
              ⟨(cell_blk hX9 0).trans rfl, (cell_blk hX9 2).trans rfl, (cell_blk hX9 4).trans rfl, (cell_blk hX9 5).trans rfl, (cell_blk hX9 6).trans rfl, (cell_blk hX9 7).trans rfl, (cell_blk hX9 8).trans rfl, (cell_blk hX9 9).trans rfl, (cell_blk hX9 10).trans rfl, (cell_blk hX9 11).trans rfl, (cell_blk hX9 12).trans rfl, (cell_blk hX9 13).trans rfl⟩
            rw [hw9] at S9
            refine wp_region_ord (fun W => W.cell? ⟨wr.heap.size, 0, none⟩ = some (.string q.typ.text) ∧ W.cell? ⟨wr.heap.size, 2, none⟩ = some (.string q.name.text) ∧ W.cell? ⟨wr.heap.size, 4, none⟩ = some (.slice B0 q.params.length e0) ∧ W.cell? ⟨wr.heap.size, 5, none⟩ = some (.slice B1 q.vars.length e1) ∧ W.cell? ⟨wr.heap.size, 6, none⟩ = some (.slice B2 q.body.length e2) ∧ W.cell? ⟨wr.heap.size, 7, none⟩ = some (.int .i64 q.ret.kind) ∧ W.cell? ⟨wr.heap.size, 8, none⟩ = some (.string q.ret.name.text) ∧ W.cell? ⟨wr.heap.size, 9, none⟩ = some (.int .i64 q.ret.name.pos) ∧ W.cell? ⟨wr.heap.size, 10, none⟩ = some (.int .i64 q.ret.num) ∧ W.cell? ⟨wr.heap.size, 11, none⟩ = some (.int .i64 q.ret.fr) ∧ W.cell? ⟨wr.heap.size, 12, none⟩ = some (.int .i64 q.ret.to) ∧ W.cell? ⟨wr.heap.size, 13, none⟩ = some (.slice B3 q.ret.kids.length e3))
              [(0, true), (1, false), (2, true), (3, false), (4, true), (5, false), (6, true), (7, false), (8, true), (9, true), (10, true), (11, true), (12, false), (13, true), (14, true), (15, true), (16, false), (17, true), (18, true), (19, true), (20, true)] [21, 22, 23] [24, 25] (by kernel_rfl) (by kernel_rfl) (fun _ _ _ _ h => h) S9 (fun K hK => ?_)
            rw [← hw9] at hK S9
            clear hw9
            simp only [pickHead, List.getElem?_cons_succ, List.getElem?_cons_zero]
            repeat (first
              | (refine ordHead_pure rfl rfl ?_; apply Exists.intro; refine ⟨fun w' => ?_, ?_⟩; (go_simp; with_reducible rfl); apply Exists.intro; refine ⟨?_, ?_⟩; (simp only [Act.put, List.setIfInBounds_toArray, List.set_cons_zero, List.set_cons_succ]; rfl))
              | (refine ordHead_read rfl rfl ?_; apply Exists.intro; refine ⟨?_, ?_⟩; (rintro w' ⟨z0, z1, z2, z3, z4, z5, z6, z7, z8, z9, z10, z11⟩; go_simp; with_reducible rfl); apply Exists.intro; refine ⟨?_, ?_⟩; (simp only [Act.put, List.setIfInBounds_toArray, List.set_cons_zero, List.set_cons_succ]; rfl)))
            refine ordHead_nil (hK _ ?_)
            simp only [pickOps, ordTail, List.getElem?_cons_succ, List.getElem?_cons_zero]
            have hx1 : szI (u - 1 - ((q.typ.text.size : Int) + (q.name.text.size : Int)) / 50) := by constructor <;> omega
            have HX1 := Lib.hid (show -100000000000000 ≤ u - 1 - ((q.typ.text.size : Int) + (q.name.text.size : Int)) / 50 by omega)
            have HV := Lib.hid (vars_calls (c := e0) (Kd.C_below HD0.out HB9.out) HG31.out _ hx1)
            clear hx1
            go_wp2_with fail
            refine HV.out.mono ?_
            rintro e w10 ⟨v1, rfl, ⟨hv1, hv2⟩, h10⟩
            have hx2 : szI v1 := by have := HX1.out; constructor <;> omega
            have HX2 := Lib.hid (show -1000000000000000 ≤ v1 by have := HX1.out; omega)
            have HB10 := Lib.hid (below_step HB9.out h10)
            have S10 : w10.cell? ⟨wr.heap.size, 0, none⟩ = some (.string q.typ.text) ∧ w10.cell? ⟨wr.heap.size, 2, none⟩ = some (.string q.name.text) ∧ w10.cell? ⟨wr.heap.size, 4, none⟩ = some (.slice B0 q.params.length e0) ∧ w10.cell? ⟨wr.heap.size, 5, none⟩ = some (.slice B1 q.vars.length e1) ∧ w10.cell? ⟨wr.heap.size, 6, none⟩ = some (.slice B2 q.body.length e2) ∧ w10.cell? ⟨wr.heap.size, 7, none⟩ = some (.int .i64 q.ret.kind) ∧ w10.cell? ⟨wr.heap.size, 8, none⟩ = some (.string q.ret.name.text) ∧ w10.cell? ⟨wr.heap.size, 9, none⟩ = some (.int .i64 q.ret.name.pos) ∧ w10.cell? ⟨wr.heap.size, 10, none⟩ = some (.int .i64 q.ret.num) ∧ w10.cell? ⟨wr.heap.size, 11, none⟩ = some (.int .i64 q.ret.fr) ∧ w10.cell? ⟨wr.heap.size, 12, none⟩ = some (.int .i64 q.ret.to) ∧ w10.cell? ⟨wr.heap.size, 13, none⟩ = some (.slice B3 q.ret.kids.length e3) :=
              ⟨cell_later h10 S9.1, cell_later h10 S9.2.1, cell_later h10 S9.2.2.1, cell_later h10 S9.2.2.2.1, cell_later h10 S9.2.2.2.2.1, cell_later h10 S9.2.2.2.2.2.1, cell_later h10 S9.2.2.2.2.2.2.1, cell_later h10 S9.2.2.2.2.2.2.2.1, cell_later h10 S9.2.2.2.2.2.2.2.2.1, cell_later h10 S9.2.2.2.2.2.2.2.2.2.1, cell_later h10 S9.2.2.2.2.2.2.2.2.2.2.1, cell_later h10 S9.2.2.2.2.2.2.2.2.2.2.2⟩
            have HV2 := Lib.hid (vars_calls (c := e1) (Kd.C_below HD1.out HB10.out) HG41.out v1 hx2)
            clear S9 hv1 hv2 h10 hx2 HV hX9
            go_wp2_with fail
            refine HV2.out.mono ?_
            rintro e w11 ⟨v2, rfl, ⟨hv1, hv2⟩, h11⟩
            have hx2 : szI v2 := by have := HX2.out; constructor <;> omega
            have HX4 := Lib.hid (show -10000000000000000 ≤ v2 by have := HX2.out; omega)
            have HB11 := Lib.hid (below_step HB10.out h11)
            have HS2 := Lib.hid (stmts13_calls HG51.out (c := e2) v2 (Kd.C_below HD2.out HB11.out) hx2)
            have S11 : w11.cell? ⟨wr.heap.size, 0, none⟩ = some (.string q.typ.text) ∧ w11.cell? ⟨wr.heap.size, 2, none⟩ = some (.string q.name.text) ∧ w11.cell? ⟨wr.heap.size, 4, none⟩ = some (.slice B0 q.params.length e0) ∧ w11.cell? ⟨wr.heap.size, 5, none⟩ = some (.slice B1 q.vars.length e1) ∧ w11.cell? ⟨wr.heap.size, 6, none⟩ = some (.slice B2 q.body.length e2) ∧ w11.cell? ⟨wr.heap.size, 7, none⟩ = some (.int .i64 q.ret.kind) ∧ w11.cell? ⟨wr.heap.size, 8, none⟩ = some (.string q.ret.name.text) ∧ w11.cell? ⟨wr.heap.size, 9, none⟩ = some (.int .i64 q.ret.name.pos) ∧ w11.cell? ⟨wr.heap.size, 10, none⟩ = some (.int .i64 q.ret.num) ∧ w11.cell? ⟨wr.heap.size, 11, none⟩ = some (.int .i64 q.ret.fr) ∧ w11.cell? ⟨wr.heap.size, 12, none⟩ = some (.int .i64 q.ret.to) ∧ w11.cell? ⟨wr.heap.size, 13, none⟩ = some (.slice B3 q.ret.kids.length e3) :=
              ⟨cell_later h11 S10.1, cell_later h11 S10.2.1, cell_later h11 S10.2.2.1, cell_later h11 S10.2.2.2.1, cell_later h11 S10.2.2.2.2.1, cell_later h11 S10.2.2.2.2.2.1, cell_later h11 S10.2.2.2.2.2.2.1, cell_later h11 S10.2.2.2.2.2.2.2.1, cell_later h11 S10.2.2.2.2.2.2.2.2.1, cell_later h11 S10.2.2.2.2.2.2.2.2.2.1, cell_later h11 S10.2.2.2.2.2.2.2.2.2.2.1, cell_later h11 S10.2.2.2.2.2.2.2.2.2.2.2⟩
            clear S10 hv1 hv2 h11 hx2 HV2
            go_wp2_with fail
            refine HS2.out.mono ?_
            rintro e w12 ⟨v3, rfl, ⟨hv1, hv2⟩, h12⟩
            have hx2 : szI v3 := by have := HX4.out; constructor <;> omega
            have HX5 := Lib.hid (show -12000000000000000 ≤ v3 by have := HX4.out; omega)
            have HB12 := Lib.hid (below_step HB11.out h12)
            have HE2 := Lib.hid (exp13_calls HG61.out (c := e3) v3 (Kd.C_below HD3.out HB12.out) hx2)
            have S12 : w12.cell? ⟨wr.heap.size, 0, none⟩ = some (.string q.typ.text) ∧ w12.cell? ⟨wr.heap.size, 2, none⟩ = some (.string q.name.text) ∧ w12.cell? ⟨wr.heap.size, 4, none⟩ = some (.slice B0 q.params.length e0) ∧ w12.cell? ⟨wr.heap.size, 5, none⟩ = some (.slice B1 q.vars.length e1) ∧ w12.cell? ⟨wr.heap.size, 6, none⟩ = some (.slice B2 q.body.length e2) ∧ w12.cell? ⟨wr.heap.size, 7, none⟩ = some (.int .i64 q.ret.kind) ∧ w12.cell? ⟨wr.heap.size, 8, none⟩ = some (.string q.ret.name.text) ∧ w12.cell? ⟨wr.heap.size, 9, none⟩ = some (.int .i64 q.ret.name.pos) ∧ w12.cell? ⟨wr.heap.size, 10, none⟩ = some (.int .i64 q.ret.num) ∧ w12.cell? ⟨wr.heap.size, 11, none⟩ = some (.int .i64 q.ret.fr) ∧ w12.cell? ⟨wr.heap.size, 12, none⟩ = some (.int .i64 q.ret.to) ∧ w12.cell? ⟨wr.heap.size, 13, none⟩ = some (.slice B3 q.ret.kids.length e3) :=
              ⟨cell_later h12 S11.1, cell_later h12 S11.2.1, cell_later h12 S11.2.2.1, cell_later h12 S11.2.2.2.1, cell_later h12 S11.2.2.2.2.1, cell_later h12 S11.2.2.2.2.2.1, cell_later h12 S11.2.2.2.2.2.2.1, cell_later h12 S11.2.2.2.2.2.2.2.1, cell_later h12 S11.2.2.2.2.2.2.2.2.1, cell_later h12 S11.2.2.2.2.2.2.2.2.2.1, cell_later h12 S11.2.2.2.2.2.2.2.2.2.2.1, cell_later h12 S11.2.2.2.2.2.2.2.2.2.2.2⟩
            clear S11 hv1 hv2 h12 hx2 HS2
            go_wp2_with fail
            refine HE2.out.mono ?_
            rintro e w13 ⟨v4, rfl, ⟨hv1, hv2⟩, h13⟩
            have HX6 := Lib.hid (show -100000000000000000 ≤ v4 ∧ v4 ≤ 1073741824 by have := HX5.out; omega)
            have HB13 := Lib.hid (below_step HB78.out (below_step HB12.out h13))
            clear hv1 hv2 h13 HE2
            go_wp2_with fail
            exact ⟨⟨j + 1, v4, by simp, by omega, rfl, HX6, HB13⟩, by simp only [intOf]; omega⟩
        · have hge : (m : Int) ≤ (j : Int) := by omega
          by_cases hneg : u < 0
          · go_wp2_with fail
            go_ret
            exact ⟨-1, rfl, below_step HB47.out hbq.out⟩
          · have hpos : 0 ≤ u := by omega
            go_wp2_with fail
            exact ⟨⟨i + 1, u, by simp, by omega, rfl, Lib.hid ⟨hpos, hu.out.2⟩, Lib.hid (below_step HB47.out hbq.out)⟩, by simp only [intOf]; omega⟩
    · have hge : (n : Int) ≤ (i : Int) := by omega
      go_wp2_with fail
      go_ret
      exact ⟨y, rfl, hb.out⟩
end Go.Proofs.YtbfkkepdeepdeaaGreatDoor
end
section
namespace Go.Proofs.YtbfkkepdeepdeaaGreatDoor
open Go Go.RowKit Go.Proofs.YtbfkkepdeepdeaaGreatDoorW.PrintWords Go.Proofs.YtbfkkepdeepdeaaGreatDoorW.PrintLast Go.Proofs.YtbfkkepdeepdeaaGreatDoorW.PrintMore
set_option linter.unusedVariables false
set_option linter.unusedSimpArgs false
set_option maxRecDepth 100000
attribute [local go_sem] Oper.semAt_some
theorem entsFrom_len : ∀ (all : List (List Cl)) (f : Nat), (entsFrom f all).length = (all.map List.length).sum
  | [], f => rfl
  | l :: r, f => by simp [entsFrom, entsFrom_len r (f + 1)]
theorem ents_len (all : List (List Cl)) : (ents all).length = (all.map List.length).sum := entsFrom_len all 0
def LgPost (all : List (List Cl)) (w : World) (e : Ending) (w' : World) : Prop := ∃ b, e = .returned (.bool b) ∧ (b = false → (ents all).length ≤ 200) ∧ Below w.heap.size w w'
theorem large14_calls {all : List (List Cl)} (hG : ∀ l ∈ all, GL GCl l) {w : World} {A : Option Addr} {n c : Nat} (hC : Kd.C kLCl w A n all) :
    Calls Tryz.prog 8 #[.slice A n c] w (LgPost all w) := by
  have hm := hC.2.1
  have HN := Lib.hid hC.1
  have HC := Lib.hid hC
  have HG := Lib.hid hG
  clear hC hG
  go_enter Tryz.func8, Tryz.ntmps8
  go_wp2_with fail
  go_loopw [3, 8] (fun v k wr => ∃ (i m : Nat), k = .int .i64 i ∧ i ≤ n ∧ v = .int .i64 m ∧ m ≤ 200 ∧ Hid (m = ((all.take i).map List.length).sum) ∧ Hid (Below w.heap.size w wr)) (fun v k _ => n - (intOf k).toNat)
  case atStart => exact ⟨0, 0, rfl, Nat.zero_le _, rfl, by decide, Lib.hid rfl, Lib.hid (Below.refl _ _)⟩
  case round =>
    obtain ⟨i, m, rfl, hin, rfl, hm2, hs, hb⟩ := hrel
    by_cases hlt : i < n
    · have hlti : (i : Int) < (n : Int) := by omega
      have hil : i < all.length := by have := HN.out; omega
      obtain ⟨ad, cs, e, -, hK, hc0⟩ := Kd.C_get HC.out [] (i : Int) (by omega) hlti
      rw [Int.toNat_natCast] at hK hc0
      obtain ⟨A2, c2, rfl, hl2, hC2⟩ := hK
      subst e
      obtain ⟨l, hl⟩ : ∃ l, l = all.getD i [] := ⟨_, rfl⟩
      rw [← hl] at hl2 hC2 hc0
      have d0 : wr.cell? (ad.add i) = some (.slice A2 l.length c2) := by have := cell_later hb.out (hc0 0 _ rfl); rwa [show i * kLCl.sz + 0 = i from by show i * 1 + 0 = i; omega] at this
      have hlm : l ∈ all := by rw [hl, List.getD_eq_getElem?_getD, List.getElem?_eq_getElem hil]; exact List.getElem_mem hil
      obtain ⟨g1, g2⟩ := HG.out l hlm
      have HS2 := Lib.hid (show m + l.length = ((all.take (i + 1)).map List.length).sum by
        rw [List.take_succ_eq_append_getElem hil, List.map_append, List.sum_append, ← hs.out, hl, List.getD_eq_getElem?_getD, List.getElem?_eq_getElem hil]
        simp)
      obtain ⟨k, hk⟩ : ∃ k, k = l.length := ⟨_, rfl⟩
      rw [← hk] at d0 hl2 hC2 g1 HS2
      have hk2 : (k : Int) ≤ 140737488351232 := by have : reachBytes = 140737488351232 := rfl; omega
      have HSZ := Lib.hid (Size_calls g2 (c := c2) 800 (Kd.C_below hC2 hb.out) (by decide) (by decide))
      clear hl hlm g2 hc0 hC2 hk
      by_cases hlg : 20 < i ∨ 200 < m + k
      · rcases hlg with h | h
        · have hb1 : decide ((i : Int) ≤ 20) = false := by simp; omega
          have hb2 : decide (20 < (i : Int)) = true := by simp; omega
          go_wp2_with fail
          go_ret
          exact ⟨true, rfl, (fun h => by cases h), hb.out⟩
        · have hb1 : decide ((m : Int) + (k : Int) ≤ 200) = false := by simp; omega
          have hb2 : decide (200 < (m : Int) + (k : Int)) = true := by simp; omega
          go_wp2_with fail
          all_goals
            go_ret
            exact ⟨true, rfl, (fun h => by cases h), hb.out⟩
      · have h1 : (i : Int) ≤ 20 := by omega
        have h2 : (m : Int) + (k : Int) ≤ 200 := by omega
        have hb1 : decide (20 < (i : Int)) = false := by simp; omega
        have hb2 : decide (200 < (m : Int) + (k : Int)) = false := by simp; omega
        go_wp2_with fail
        refine HSZ.out.mono ?_
        rintro e w5 ⟨v, rfl, h5⟩
        have HB5 := Lib.hid (below_step hb.out h5)
        clear h5 HSZ
        by_cases hv : v < 0
        · have hb3 : decide (v < 0) = true := by simpa using hv
          go_wp2_with fail
          go_ret
          exact ⟨true, rfl, (fun h => by cases h), HB5.out⟩
        · have hb3 : decide (v < 0) = false := by simpa using hv
          go_wp2_with fail
          exact ⟨⟨i + 1, m + k, by simp, by omega, by simp, by omega, HS2, HB5⟩, by simp only [intOf]; omega⟩
    · have hge : (n : Int) ≤ (i : Int) := by omega
      have hT : all.take i = all := List.take_of_length_le (by have := HN.out; omega)
      have HS2 := Lib.hid (show (ents all).length ≤ 200 by rw [ents_len, ← hT, ← hs.out]; exact hm2)
      go_wp2_with fail
      go_ret
      exact ⟨false, rfl, fun _ => HS2.out, hb.out⟩
end Go.Proofs.YtbfkkepdeepdeaaGreatDoor
end
section
namespace Go.Proofs.YtbfkkepdeepdeaaGreatDoor
open Go Go.RowKit Go.Maps Go.Proofs.YtbfkkepdeepdeaaGreatDoorW.PrintWords Go.Proofs.YtbfkkepdeepdeaaGreatDoorW.PrintLast Go.Proofs.YtbfkkepdeepdeaaGreatDoorW.PrintMore
set_option linter.unusedVariables false
set_option linter.unusedSimpArgs false
def cntM (l : List (Int × En)) : Nat := (l.filter (fun a => a.2.cls.main)).length
def alnB (xs : List En) (l : List (Int × En)) : Bool := l.all (fun a => decide (a.1 ≤ fnd0 xs a.2.cls.name.text))
theorem cntM_snoc (l : List (Int × En)) (a : Int × En) : cntM (l ++ [a]) = cntM l + (if a.2.cls.main = true then 1 else 0) := by
  unfold cntM
  rw [List.filter_append, List.length_append]
  by_cases h : a.2.cls.main = true <;> simp [h]
theorem alnB_snoc (xs : List En) (l : List (Int × En)) (a : Int × En) : alnB xs (l ++ [a]) = (alnB xs l && decide (a.1 ≤ fnd0 xs a.2.cls.name.text)) := by simp [alnB]
theorem cntM_le (l : List (Int × En)) : cntM l ≤ l.length := List.length_filter_le _ _
theorem rd_at {xs : List En} {j : Nat} (h : j < xs.length) : rd_En xs (j : Int) = xs[j] := by
  unfold rd_En; rw [Int.toNat_natCast, List.getD_eq_getElem?_getD, List.getElem?_eq_getElem h]; rfl
theorem fnd_entry {xs : List En} {j : Nat} (h : j < xs.length) : ∃ k, fnd xs (rd_En xs (j : Int)).cls.name.text = some k ∧ k ≤ j := by
  rw [rd_at h]
  unfold fnd
  cases hf : xs.findIdx? (fun e => decide (e.cls.name.text = xs[j].cls.name.text)) with
  | none =>
    have := List.findIdx?_eq_none_iff.1 hf xs[j] (List.getElem_mem h)
    simp at this
  | some k =>
    refine ⟨k, rfl, ?_⟩
    obtain ⟨h1, h2, h3⟩ := List.findIdx?_eq_some_iff_getElem.1 hf
    rcases Nat.lt_or_ge j k with hl | hl
    · have := h3 j hl; simp at this
    · exact hl
theorem mem_sees {xs : List En} {n : Nat} {a : Int × En} : a ∈ sees xs n ↔ ∃ j : Nat, j < n ∧ a = ((j : Int), rd_En xs (j : Int)) := by
  unfold sees
  rw [List.mem_map]
  constructor
  · rintro ⟨j, hj, rfl⟩; exact ⟨j, List.mem_range.1 hj, rfl⟩
  · rintro ⟨j, hj, rfl⟩; exact ⟨j, List.mem_range.2 hj, rfl⟩
theorem mainOf_none {xs : List En} : mainOf xs < 0 ↔ ∀ j : Nat, j < xs.length → (rd_En xs (j : Int)).cls.main = false := by
  unfold mainOf
  cases hf : xs.findIdx? (fun e => e.cls.main) with
  | none =>
    refine ⟨fun _ j hj => ?_, fun _ => by decide⟩
    rw [rd_at hj]
    simpa using List.findIdx?_eq_none_iff.1 hf xs[j] (List.getElem_mem hj)
  | some k =>
    obtain ⟨h1, h2, h3⟩ := List.findIdx?_eq_some_iff_getElem.1 hf
    refine ⟨fun h => by simp only at h; omega, fun h => ?_⟩
    have := h k h1
    rw [rd_at h1, h2] at this
    cases this
theorem mainOf_main {xs : List En} (h : 0 ≤ mainOf xs) : ∃ k : Nat, mainOf xs = k ∧ k < xs.length ∧ (rd_En xs (k : Int)).cls.main = true := by
  unfold mainOf at h ⊢
  cases hf : xs.findIdx? (fun e => e.cls.main) with
  | none => rw [hf] at h; simp at h
  | some k =>
    obtain ⟨h1, h2, h3⟩ := List.findIdx?_eq_some_iff_getElem.1 hf
    exact ⟨k, rfl, h1, by rw [rd_at h1]; exact h2⟩
theorem cntM_range (xs : List En) : ∀ n : Nat, cntM (sees xs n) = ((List.range n).filter (fun i => (rd_En xs ((i : Nat) : Int)).cls.main)).length := fun n => by
  unfold cntM sees
  rw [List.filter_map, List.length_map]
  rfl
theorem filter_one {p : Nat → Bool} {k : Nat} : ∀ n : Nat, k < n → (∀ j, j < n → (p j = true ↔ j = k)) → (List.range n).filter p = [k]
  | 0, h, _ => by omega
  | n + 1, h, hp => by
    rw [List.range_succ, List.filter_append]
    by_cases e : k = n
    · subst e
      have h1 : (List.range k).filter p = [] := by
        rw [List.filter_eq_nil_iff]
        intro j hj hpj
        have := (hp j (by have := List.mem_range.1 hj; omega)).1 hpj
        have := List.mem_range.1 hj; omega
      rw [h1]
      have h2 := (hp k (by omega)).2 rfl
      simp [h2]
    · have h1 := filter_one (p := p) (k := k) n (by omega) (fun j hj => hp j (by omega))
      have h2 : p n = false := by
        cases hq : p n with
        | false => rfl
        | true => have := (hp n (by omega)).1 hq; omega
      rw [h1]; simp [h2]
theorem classFs_nil (xs : List En) : classFs xs (mainOf xs) = [] ↔ 0 ≤ mainOf xs ∧ ∀ j : Nat, j < xs.length → fnd0 xs (rd_En xs (j : Int)).cls.name.text = j ∧ ((rd_En xs (j : Int)).cls.main = true → mainOf xs = j) := by
  unfold classFs
  rw [List.append_eq_nil_iff, List.flatMap_eq_nil_iff]
  have h0 : cf0 (mainOf xs) = [] ↔ 0 ≤ mainOf xs := by
    unfold cf0
    by_cases h : mainOf xs < 0
    · rw [if_pos h]; constructor
      · intro e; cases e
      · intro e; omega
    · rw [if_neg h]; constructor
      · intro _; omega
      · intro _; rfl
  rw [h0]
  refine and_congr_right (fun _ => ?_)
  constructor
  · intro h j hj
    have h1 := h ((j : Int), rd_En xs (j : Int)) (mem_sees.2 ⟨j, hj, rfl⟩)
    unfold cfOf at h1
    rw [List.append_eq_nil_iff] at h1
    refine ⟨?_, fun hm => ?_⟩
    · by_cases e : fnd0 xs (rd_En xs (j : Int)).cls.name.text = (j : Int)
      · exact e
      · have := h1.1; simp only at this; rw [if_neg e] at this; cases this
    · by_cases e : mainOf xs = (j : Int)
      · exact e
      · have := h1.2; simp only at this; rw [if_pos ⟨hm, e⟩] at this; cases this
  · rintro h a ha
    obtain ⟨j, hj, rfl⟩ := mem_sees.1 ha
    obtain ⟨h1, h2⟩ := h j hj
    unfold cfOf
    simp only
    rw [if_pos h1, if_neg (fun e => e.2 (h2 e.1))]
    rfl
theorem alone_law (xs : List En) : ((setF (classFs xs (mainOf xs))).length = 0) ↔ (alnB xs (sees xs xs.length) = true ∧ cntM (sees xs xs.length) = 1) := by
  have h1 : (setF (classFs xs (mainOf xs))).length = 0 ↔ classFs xs (mainOf xs) = [] := by
    rw [List.length_eq_zero_iff]
    constructor
    · intro h
      rw [List.eq_nil_iff_forall_not_mem]
      intro a ha
      have := (mem_setF a _).2 ha
      rw [h] at this
      cases this
    · intro h; rw [h]; rfl
  rw [h1, classFs_nil, cntM_range]
  have ha : alnB xs (sees xs xs.length) = true ↔ ∀ j : Nat, j < xs.length → fnd0 xs (rd_En xs (j : Int)).cls.name.text = j := by
    unfold alnB
    rw [List.all_eq_true]
    constructor
    · intro h j hj
      have h2 := h _ (mem_sees.2 ⟨j, hj, rfl⟩)
      obtain ⟨k, hk, hkj⟩ := fnd_entry hj
      have h3 : fnd0 xs (rd_En xs (j : Int)).cls.name.text = k := by unfold fnd0; rw [hk]; rfl
      simp only [decide_eq_true_eq] at h2
      rw [h3] at h2 ⊢
      omega
    · rintro h a ha
      obtain ⟨j, hj, rfl⟩ := mem_sees.1 ha
      have := h j hj
      simp only [decide_eq_true_eq]
      omega
  rw [ha]
  constructor
  · rintro ⟨h0, h⟩
    obtain ⟨k, e, hk, hm⟩ := mainOf_main h0
    refine ⟨fun j hj => (h j hj).1, ?_⟩
    rw [filter_one (k := k) xs.length hk (fun j hj => ⟨fun hj2 => ?_, fun e => by rw [e]; exact hm⟩)]
    · rfl
    · have := (h j hj).2 hj2; omega
  · rintro ⟨h, hc⟩
    obtain ⟨a, hL⟩ := List.length_eq_one_iff.1 hc
    have hmem : ∀ j : Nat, j < xs.length → (rd_En xs (j : Int)).cls.main = true → j = a := fun j hj hm => by
      have : j ∈ (List.range xs.length).filter (fun i => (rd_En xs ((i : Nat) : Int)).cls.main) := List.mem_filter.2 ⟨List.mem_range.2 hj, hm⟩
      rw [hL] at this
      exact List.mem_singleton.1 this
    have haM : a < xs.length ∧ (rd_En xs ((a : Nat) : Int)).cls.main = true := by
      have : a ∈ (List.range xs.length).filter (fun i => (rd_En xs ((i : Nat) : Int)).cls.main) := by rw [hL]; exact List.mem_cons_self
      have := List.mem_filter.1 this
      exact ⟨List.mem_range.1 this.1, this.2⟩
    have h0 : 0 ≤ mainOf xs := by
      rcases Int.lt_or_le (mainOf xs) 0 with h | h
      · have := mainOf_none.1 h a haM.1; rw [haM.2] at this; cases this
      · exact h
    obtain ⟨k, e, hk, hm⟩ := mainOf_main h0
    refine ⟨h0, fun j hj => ⟨h j hj, fun hm2 => ?_⟩⟩
    rw [e, hmem k hk hm, hmem j hj hm2]
end Go.Proofs.YtbfkkepdeepdeaaGreatDoor
end
section
namespace Go.Proofs.YtbfkkepdeepdeaaGreatDoor
open Go Go.RowKit Go.Maps Go.Shelf Go.Proofs.YtbfkkepdeepdeaaGreatDoorW.PrintWords Go.Proofs.YtbfkkepdeepdeaaGreatDoorW.PrintLast Go.Proofs.YtbfkkepdeepdeaaGreatDoorW.PrintMore
set_option linter.unusedVariables false
set_option linter.unusedSimpArgs false
set_option maxRecDepth 100000
attribute [local go_sem] Oper.semAt_some
structure AlI (w4 w6 : World) (tb b1 b2 b3 bA : Nat) (xs : List En) (pre : List AE) (W : World) : Prop where
  tx : W.heap[b1]? = some (.cells #[.pointer (some ⟨tb, 0, none⟩)] 25 (0, 0))
  mx : W.heap[b2]? = some (.cells #[.int .i64 (cntM (pre.map AE.key))] 3 (0, 0))
  ax : W.heap[b3]? = some (.cells #[.bool (alnB xs (pre.map AE.key))] 4 (0, 0))
  cx : W.heap[bA]? = some (.cells #[.pointer (some ⟨tb, 0, none⟩)] 25 (0, 0))
  bel : Below w4.heap.size w4 W
  size : w6.heap.size ≤ W.heap.size
def badA (xs : List En) (a : AE) : Prop := fnd xs a.x.cls.name.text = none ∨ ∃ k : Nat, fnd xs a.x.cls.name.text = some k ∧ a.j < k
theorem ali_own {w4 w6 : World} {tb b1 b2 b3 bA : Nat} {xs : List En} (h : w4.heap.size ≤ w6.heap.size) : OwnFrom w6.heap.size (AlI w4 w6 tb b1 b2 b3 bA xs) := fun pre W W' row hs hg hr =>
  ⟨cells_kept hg hr hs.tx, cells_kept hg hr hs.mx, cells_kept hg hr hs.ax, cells_kept hg hr hs.cx, below_kept hs.bel hg (fun r e => Nat.le_trans h (hr r e).1), Nat.le_trans hs.size hg.size⟩
theorem ali_step {w4 w6 : World} {tb : Nat} {xs : List En} {pre : List AE} {x : AE} {W : World} (h : AlI w4 w6 tb w4.heap.size (w4.heap.size + 1) (w4.heap.size + 2) (w4.heap.size + 3) xs pre W) {cn : Nat} {al : Bool} (hc : cntM ((pre ++ [x]).map AE.key) = cn) (ha : alnB xs ((pre ++ [x]).map AE.key) = al) (B : Nat) {W2 : World} (h2 : W2 = (W.setCell ⟨w4.heap.size + 1, 0, none⟩ (.int .i64 cn)).setCell ⟨w4.heap.size + 2, 0, none⟩ (.bool al)) :
    KeepsFrom B W W2 ∧ KpA w4.heap.size (w4.heap.size + 3) W W2 ∧ AlI w4 w6 tb w4.heap.size (w4.heap.size + 1) (w4.heap.size + 2) (w4.heap.size + 3) xs (pre ++ [x]) W2 := by
  have ho : ∀ k, k ≠ w4.heap.size + 1 → k ≠ w4.heap.size + 2 → W2.heap[k]? = W.heap[k]? := fun k h3 h4 => by rw [h2, Below.heap_setCell _ _ _ _ h4, Below.heap_setCell _ _ _ _ h3]
  have hb : Below w4.heap.size W W2 := by rw [h2]; exact ((Below.refl _ _).setCell (p := ⟨w4.heap.size + 1, 0, none⟩) (by show w4.heap.size ≤ w4.heap.size + 1; omega) _).setCell (p := ⟨w4.heap.size + 2, 0, none⟩) (by show w4.heap.size ≤ w4.heap.size + 2; omega) _
  refine ⟨?_, ⟨hb, ho _ (by omega) (by omega)⟩, ⟨(ho _ (by omega) (by omega)).trans h.tx, ?_, ?_, (ho _ (by omega) (by omega)).trans h.cx, h.bel.trans hb, Nat.le_trans h.size hb.size⟩⟩
  · rw [h2]; exact ((KeepsOthers.setCell _ _ _).trans (KeepsOthers.setCell _ _ _)).from _
  · rw [h2, Below.heap_setCell _ _ _ _ (by simp), hc]; exact heap_setCell_same h.mx 0 _
  · rw [h2, ha]; exact heap_setCell_same ((Below.heap_setCell _ _ _ _ (by simp)).trans h.ax) 0 _
def noP (Q : Exit → Act → World → Prop) : Exit → Act → World → Prop
  | .panic _, _, _ => False
  | e, a, w => Q e a w
theorem wp_noP {P : Program} {c : Code} {Q : Exit → Act → World → Prop} {a : Act} {w : World} (h : c.wp P (noP Q) a w) : c.wp P Q a w :=
  Code.wp_mono (fun e a w h => by cases e <;> first | exact h | exact h.elim) h
theorem entsFrom_mem : ∀ (all : List (List Cl)) (f : Nat) (e : En), e ∈ entsFrom f all → ∃ l ∈ all, e.cls ∈ l
  | [], f, e, h => by cases h
  | l :: r, f, e, h => by
    rcases List.mem_append.1 h with h | h
    · obtain ⟨c, hc, rfl⟩ := List.mem_map.1 h
      exact ⟨l, List.mem_cons_self, hc⟩
    · obtain ⟨l2, h2, h3⟩ := entsFrom_mem r (f + 1) e h
      exact ⟨l2, List.mem_cons_of_mem _ h2, h3⟩
theorem ents_names {all : List (List Cl)} (hG : ∀ l ∈ all, GL GCl l) : ∀ e ∈ ents all, e.cls.name.text.size ≤ maxLen ∧ e.cls.super.text.size ≤ maxLen := fun e he => by
  obtain ⟨l, hl, hc⟩ := entsFrom_mem all 0 e he
  obtain ⟨h1, h2, -⟩ := (hG l hl).2 _ hc
  have h3 : reachBytes ≤ maxLen := by decide
  exact ⟨Nat.le_trans h1 h3, Nat.le_trans h2 h3⟩
set_option maxHeartbeats 4000000 in
theorem ClassAlone_walk {w : World} {A : Option Addr} {n c : Nat} {all : List (List Cl)} (hC : Kd.C kLCl w A n all) (hG : ∀ l ∈ all, GL GCl l) (E : Env w) :
    Calls Tryz.prog 3 #[.slice A n c] w fun e w' => e = .returned (.bool true) ∧ Below w.heap.size w w' := by
  obtain ⟨w1, hw1⟩ : ∃ w1, w1 = w.alloc (.cells #[.bool false] 4) := ⟨_, rfl⟩
  have hA1 : Below w.heap.size w w1 := by rw [hw1]; exact (Below.refl _ _).alloc (Nat.le_refl _) _
  have HB := Lib.hid (show w1.heap[w.heap.size]? = some (.cells #[.bool false] 4 (0, 0)) by rw [hw1]; exact World.alloc_heap_new w _)
  have HAL := Lib.hid (alive14_calls (E.below hA1))
  rw [hw1] at HAL
  have HC1 := Lib.hid (Kd.C_below hC hA1)
  have HA := Lib.hid hA1
  have hz1 : w1.heap.size = w.heap.size + 1 := by rw [hw1]; simp
  have HG := Lib.hid hG
  clear hA1 hC E hG
  refine (callsIn_wide (n := 3)).1 ?_
  refine callsIn_of_wp_marks Tryz.func3 rfl trivial ?_ rfl
  simp only [Tryz.ntmps3, List.size_toArray, List.length_cons, List.length_nil, Nat.reduceAdd, Nat.reduceSub, Array.replicate_succ, Array.replicate_zero, List.push_toArray, List.append_toArray, List.nil_append, List.cons_append]
  refine wpIn_wide.2 ?_
  go_wp2_with fail
  refine HAL.out.mono ?_
  rintro e w2 ⟨rfl, h2⟩
  rw [← hw1] at h2
  have HA2 := Lib.hid (below_step HA.out h2)
  have HC2 := Lib.hid (Kd.C_below HC1.out h2)
  have HB2 := Lib.hid ((h2.block w.heap.size (by omega)).trans HB.out)
  have hz2 : w.heap.size < w2.heap.size := by have := h2.size; omega
  clear h2 HAL hw1
  go_wp2_with fail
  refine (large14_calls HG.out HC2.out).mono ?_
  rintro e w3 ⟨b, rfl, hlen, h3⟩
  have HA3 := Lib.hid (below_step HA2.out h3)
  have HC3 := Lib.hid (Kd.C_below HC2.out h3)
  have HB3 := Lib.hid ((h3.block w.heap.size hz2).trans HB2.out)
  have hz3 : w.heap.size < w3.heap.size := by have := h3.size; omega
  clear h3
  have b0 := (cell_blk HB3.out 0).trans rfl
  have f0 := frozen_blk HB3.out 0
  cases b with
  | true =>
    go_wp2_with fail
    exact ⟨_, resB Tryz.results3 rfl (heap_setCell_same HB3.out 0 (.bool true)), rfl, HA3.out.setCell (p := ⟨w.heap.size, 0, none⟩) (Nat.le_refl _) _⟩
  | false =>
    have h200 := hlen rfl
    clear hlen b0 f0
    obtain ⟨xs, hxs⟩ : ∃ xs, xs = ents all := ⟨_, rfl⟩
    have hnm : ∀ e ∈ ents all, e.cls.name.text.size ≤ maxLen ∧ e.cls.super.text.size ≤ maxLen := ents_names HG.out
    have HNW := Lib.hid (TNew_calls (c := c) HC3.out hnm (by omega))
    rw [← hxs] at HNW h200
    have HXS := Lib.hid hxs
    clear hnm hxs
    go_wp2_with fail
    refine HNW.out.mono ?_
    rintro e w4 ⟨tb, rfl, hT, h4⟩
    have HT4 := Lib.hid hT
    have HA4 := Lib.hid (below_step HA3.out h4)
    have HB4 := Lib.hid ((h4.block w.heap.size hz3).trans HB3.out)
    have hz4 : w.heap.size < w4.heap.size := by have := h4.size; omega
    clear hT h4 HNW
    go_wp2_with fail
    refine (All_tbl_calls _).mono ?_
    rintro e w6 ⟨rfl, hw6⟩
    have hs6 : w6.heap.size = w4.heap.size + 4 := by rw [hw6]; simp
    have hB6 : Below w4.heap.size w4 w6 := by rw [hw6]; exact ((((Below.refl _ _).alloc (Nat.le_refl _) _).alloc (by simp) _).alloc (by simp; omega) _).alloc (by simp; omega) _
    have hI0 : AlI w4 w6 tb w4.heap.size (w4.heap.size + 1) (w4.heap.size + 2) (w4.heap.size + 3) xs [] w6 := by
      refine ⟨?_, ?_, ?_, ?_, hB6, Nat.le_refl _⟩
      · rw [hw6, Below.heap_alloc _ _ _ (by simp only [World.size_alloc]; omega), Below.heap_alloc _ _ _ (by simp only [World.size_alloc]; omega), Below.heap_alloc _ _ _ (by simp)]; exact World.alloc_heap_new w4 _
      · rw [hw6, Below.heap_alloc _ _ _ (by simp), Below.heap_alloc _ _ _ (by simp)]; have := World.alloc_heap_new (w4.alloc (.cells #[.pointer (some ⟨tb, 0, none⟩)] 25)) (.cells #[.int .i64 0] 3); rwa [World.size_alloc] at this
      · rw [hw6, Below.heap_alloc _ _ _ (by simp)]
        have := World.alloc_heap_new ((w4.alloc (.cells #[.pointer (some ⟨tb, 0, none⟩)] 25)).alloc (.cells #[.int .i64 0] 3)) (.cells #[.bool true] 4)
        rw [World.size_alloc, World.size_alloc] at this
        exact this
      · rw [hw6]
        have := World.alloc_heap_new (((w4.alloc (.cells #[.pointer (some ⟨tb, 0, none⟩)] 25)).alloc (.cells #[.int .i64 0] 3)).alloc (.cells #[.bool true] 4)) (.cells #[.pointer (some ⟨tb, 0, none⟩)] 25)
        rw [World.size_alloc, World.size_alloc, World.size_alloc] at this
        exact this
    have HI0 := Lib.hid hI0
    have hTW : ∀ W', Below w4.heap.size w6 W' → Tab W' tb xs (mainOf xs) := fun W' h => HT4.out.later (hB6.trans h)
    have HTW := Lib.hid hTW
    clear hw6 hB6 hI0 hTW
    simp only [World.size_alloc, Nat.add_assoc, Nat.reduceAdd]
    go_wp2_with fail
    refine (wpIn_wide (n := 3)).1 ?_
    have hbx : Boxed w6 (w4.heap.size + 3) 25 (.pointer (some ⟨tb, 0, none⟩)) := HI0.out.cx
    refine wpIn_rangeFunc_ownH (F := Fence.wide) (n := 3) (w := w6) (w0 := w6) rfl (by decide) (gf := 30) (lb := #[.pointer (some ⟨w4.heap.size + 3, 0, none⟩)]) rfl trivial (enters_of Tryz.func30 (by kernel_rfl) rfl)
      (all_stops (n := 2) (by decide) (n₀ := w4.heap.size) (by omega) HTW.out hbx) (fun h k => h.trans k) (fun W l o o' hl _ _ _ => ⟨below_putObj (Below.refl _ _) (by omega) _, World.putObj_heap_other (by omega)⟩) (Below.refl _ _) (fun _ => rfl)
      (AlI w4 w6 tb w4.heap.size (w4.heap.size + 1) (w4.heap.size + 2) (w4.heap.size + 3) xs) (fun c pre W => ∃ q x, pre = q ++ [x] ∧ badA xs x) (ali_own (by omega)) (fun _ _ _ _ _ hs _ _ => hs) HI0.out
      (fun x a' W => ∃ Bx, w6.heap.size ≤ Bx ∧ W.heap[Bx]? = some (.cells (eCells x.x x.A6 x.c6 x.A7 x.c7 x.A10 x.c10) 38 (0, 0)) ∧ a' = { tmps := #[.slice A n c, undef, .pointer (some ⟨w.heap.size, 0, none⟩), .pointer (some ⟨w4.heap.size, 0, none⟩), .pointer (some ⟨w4.heap.size + 1, 0, none⟩), .pointer (some ⟨w4.heap.size + 2, 0, none⟩), .int .i64 x.j, .pointer (some ⟨Bx, 0, none⟩), undef, undef, .bool true, .bool false, .slice A n c, .bool false, .slice A n c, .pointer (some ⟨tb, 0, none⟩), .pointer (some ⟨tb, 0, none⟩), .func (.func 30) #[] #[.pointer (some ⟨w4.heap.size + 3, 0, none⟩)], .int .i64 x.j, .agg (eCells x.x x.A6 x.c6 x.A7 x.c7 x.A10 x.c10), undef, undef, undef, undef, undef, undef, undef, undef, undef, undef, undef, undef, undef, undef, undef, undef, undef, undef, undef, undef, undef, undef, undef, undef, undef, undef, undef, undef, undef, undef, undef, undef, undef, undef], defers := [] })
      ?hax ?assign ?body ?done ?stop
    case hax =>
      intro x a'
      rintro _ W W' row ⟨Bx, h1, h2, h3⟩ hg hr
      exact ⟨Bx, h1, cells_kept hg hr h2, h3⟩
    case assign =>
      rintro l pre x W K hi hK
      gi_wp2
      exact hK _ _ ((KeepsOthers.alloc _ _).from _) ⟨(Below.refl _ W).alloc (by have := hi.size; omega) _, Below.heap_alloc _ _ _ (Array.getElem?_eq_some_iff.1 hi.cx).1⟩ ((ali_own (by omega)).alloc _ hi) ⟨W.heap.size, hi.size, World.alloc_heap_new _ _, rfl⟩
    case body =>
      rintro l pre x a' W hl ⟨r, hr⟩ hI ⟨Bx, hBx, hX, rfl⟩ hlt
      have hsz := hI.size
      have hBl : Bx < W.heap.size := (Array.getElem?_eq_some_iff.1 hX).1
      have x1 : W.cell? ⟨Bx, 1, none⟩ = some (.bool x.x.cls.main) := (cell_blk hX 1).trans rfl
      have x2 : W.cell? ⟨Bx, 2, none⟩ = some (.string x.x.cls.name.text) := (cell_blk hX 2).trans rfl
      have hnm := x.hs.1
      obtain ⟨cn, hcn⟩ : ∃ q : Nat, q = cntM (pre.map AE.key) := ⟨_, rfl⟩
      obtain ⟨al, hal⟩ : ∃ q, q = alnB xs (pre.map AE.key) := ⟨_, rfl⟩
      have hcn2 : cn ≤ 200 := by rw [hcn]; have := cntM_le (pre.map AE.key); rw [List.length_map] at this; omega
      have hmx := hI.mx
      have hax := hI.ax
      rw [← hcn] at hmx
      rw [← hal] at hax
      have t0 := (cell_blk hI.tx 0).trans rfl
      have m0 : W.cell? ⟨w4.heap.size + 1, 0, none⟩ = some (.int .i64 cn) := (cell_blk hmx 0).trans rfl
      have fm := frozen_blk hmx 0
      have a0 : W.cell? ⟨w4.heap.size + 2, 0, none⟩ = some (.bool al) := (cell_blk hax 0).trans rfl
      have fa := frozen_blk hax 0
      have hlow : ∀ k, k < w4.heap.size → k ≠ w4.heap.size + 1 := fun k h => by omega
      have HTW2 := Lib.hid (fun W' (h : Below w4.heap.size w4 W') => HT4.out.later h)
      have HII := Lib.hid hI
      have HCN := Lib.hid hcn
      have HALN := Lib.hid hal
      have HMX := Lib.hid hmx
      have HAX := Lib.hid hax
      clear hI hX hcn hal hmx hax hr
      have r0 : W.cell? ⟨w.heap.size, 0, none⟩ = some (.bool false) := (cell_blk ((HII.out.bel.block w.heap.size hz4).trans HB4.out) 0).trans rfl
      have fr := frozen_blk ((HII.out.bel.block w.heap.size hz4).trans HB4.out) 0
      cases hmain : x.x.cls.main with
      | true =>
        have HM := Lib.hid hmain
        rw [hmain] at x1
        clear hmain
        have HC2 := Lib.hid (show cntM ((pre ++ [x]).map AE.key) = cn + 1 by rw [List.map_append]; show cntM (pre.map AE.key ++ [x.key]) = _; rw [cntM_snoc, ← HCN.out]; unfold AE.key; simp only; rw [HM.out]; rfl)
        have HTT := Lib.hid (HTW2.out (W.setCell ⟨w4.heap.size + 1, 0, none⟩ (.int .i64 ((cn : Int) + 1))) (HII.out.bel.setCell (p := ⟨w4.heap.size + 1, 0, none⟩) (by show w4.heap.size ≤ w4.heap.size + 1; omega) _))
        rcases hf : fnd xs x.x.cls.name.text with _ | k
        · have HF := Lib.hid hf
          clear hf
          gi_wp2_with (refine ⟨trivial, ?_⟩; gi_at_call 11; refine (callsIn_wide.2 (Find_calls HTT.out _ hnm)).mono ?_; rw [HF.out]; rintro e w7 ⟨rfl, rfl⟩)
          exact ⟨((KeepsOthers.setCell _ _ _).trans (KeepsOthers.setCell _ _ _)).from _, pre, x, rfl, .inl HF.out⟩
        · have HF := Lib.hid hf
          have HF0 := Lib.hid (show fnd0 xs x.x.cls.name.text = (k : Int) by unfold fnd0; rw [hf]; rfl)
          clear hf
          rcases Int.lt_or_le x.j (k : Int) with hk1 | hk1
          · have hd1 : decide ((k : Int) ≤ x.j) = false := by simpa using hk1
            have hd2 : decide (x.j < (k : Int)) = true := by simpa using hk1
            have HK1 := Lib.hid hk1
            clear hk1
            gi_wp2_with (refine ⟨trivial, ?_⟩; gi_at_call 11; refine (callsIn_wide.2 (Find_calls HTT.out _ hnm)).mono ?_; rw [HF.out]; rintro e w7 ⟨rfl, rfl⟩)
            exact ⟨((KeepsOthers.setCell _ _ _).trans (KeepsOthers.setCell _ _ _)).from _, pre, x, rfl, .inr ⟨k, HF.out, HK1.out⟩⟩
          · have hd2 : decide (x.j < (k : Int)) = false := by simpa using hk1
            rcases Int.lt_or_le (k : Int) x.j with hk2 | hk2
            · have hd3 : decide ((k : Int) < x.j) = true := by simpa using hk2
              have hd4 : decide (x.j ≤ (k : Int)) = false := by simpa using hk2
              have HA2 := Lib.hid (show alnB xs ((pre ++ [x]).map AE.key) = false by rw [List.map_append]; show alnB xs (pre.map AE.key ++ [x.key]) = _; rw [alnB_snoc]; unfold AE.key; simp only; rw [HF0.out, hd4, Bool.and_false])
              clear hk1 hk2
              gi_wp2_with (refine ⟨trivial, ?_⟩; gi_at_call 11; refine (callsIn_wide.2 (Find_calls HTT.out _ hnm)).mono ?_; rw [HF.out]; rintro e w7 ⟨rfl, rfl⟩)
              exact ali_step HII.out HC2.out HA2.out _ (by simp)
            · have hd3 : decide ((k : Int) < x.j) = false := by simpa using hk2
              have hd4 : decide (x.j ≤ (k : Int)) = true := by simpa using hk2
              have HA2 := Lib.hid (show alnB xs ((pre ++ [x]).map AE.key) = al by rw [List.map_append]; show alnB xs (pre.map AE.key ++ [x.key]) = _; rw [alnB_snoc, ← HALN.out]; unfold AE.key; simp only; rw [HF0.out, hd4, Bool.and_true])
              clear hk1 hk2
              gi_wp2_with (refine ⟨trivial, ?_⟩; gi_at_call 11; refine (callsIn_wide.2 (Find_calls HTT.out _ hnm)).mono ?_; rw [HF.out]; rintro e w7 ⟨rfl, rfl⟩)
              exact ali_step HII.out HC2.out HA2.out _ (by rw [set_same (v := .bool al) ((Below.heap_setCell _ _ _ _ (by simp)).trans HAX.out) rfl]; simp)
      | false =>
        have HM := Lib.hid hmain
        rw [hmain] at x1
        clear hmain
        have HC2 := Lib.hid (show cntM ((pre ++ [x]).map AE.key) = cn by rw [List.map_append]; show cntM (pre.map AE.key ++ [x.key]) = _; rw [cntM_snoc, ← HCN.out]; unfold AE.key; simp only; rw [HM.out]; rfl)
        have HTT := Lib.hid (HTW2.out W HII.out.bel)
        rcases hf : fnd xs x.x.cls.name.text with _ | k
        · have HF := Lib.hid hf
          clear hf
          gi_wp2_with (refine ⟨trivial, ?_⟩; gi_at_call 11; refine (callsIn_wide.2 (Find_calls HTT.out _ hnm)).mono ?_; rw [HF.out]; rintro e w7 ⟨rfl, rfl⟩)
          exact ⟨(KeepsOthers.setCell _ _ _).from _, pre, x, rfl, .inl HF.out⟩
        · have HF := Lib.hid hf
          have HF0 := Lib.hid (show fnd0 xs x.x.cls.name.text = (k : Int) by unfold fnd0; rw [hf]; rfl)
          clear hf
          rcases Int.lt_or_le x.j (k : Int) with hk1 | hk1
          · have hd1 : decide ((k : Int) ≤ x.j) = false := by simpa using hk1
            have hd2 : decide (x.j < (k : Int)) = true := by simpa using hk1
            have HK1 := Lib.hid hk1
            clear hk1
            gi_wp2_with (refine ⟨trivial, ?_⟩; gi_at_call 11; refine (callsIn_wide.2 (Find_calls HTT.out _ hnm)).mono ?_; rw [HF.out]; rintro e w7 ⟨rfl, rfl⟩)
            exact ⟨(KeepsOthers.setCell _ _ _).from _, pre, x, rfl, .inr ⟨k, HF.out, HK1.out⟩⟩
          · have hd2 : decide (x.j < (k : Int)) = false := by simpa using hk1
            rcases Int.lt_or_le (k : Int) x.j with hk2 | hk2
            · have hd3 : decide ((k : Int) < x.j) = true := by simpa using hk2
              have hd4 : decide (x.j ≤ (k : Int)) = false := by simpa using hk2
              have HA2 := Lib.hid (show alnB xs ((pre ++ [x]).map AE.key) = false by rw [List.map_append]; show alnB xs (pre.map AE.key ++ [x.key]) = _; rw [alnB_snoc]; unfold AE.key; simp only; rw [HF0.out, hd4, Bool.and_false])
              clear hk1 hk2
              gi_wp2_with (refine ⟨trivial, ?_⟩; gi_at_call 11; refine (callsIn_wide.2 (Find_calls HTT.out _ hnm)).mono ?_; rw [HF.out]; rintro e w7 ⟨rfl, rfl⟩)
              exact ali_step HII.out HC2.out HA2.out _ (by rw [set_same HMX.out rfl])
            · have hd3 : decide ((k : Int) < x.j) = false := by simpa using hk2
              have hd4 : decide (x.j ≤ (k : Int)) = true := by simpa using hk2
              have HA2 := Lib.hid (show alnB xs ((pre ++ [x]).map AE.key) = al by rw [List.map_append]; show alnB xs (pre.map AE.key ++ [x.key]) = _; rw [alnB_snoc, ← HALN.out]; unfold AE.key; simp only; rw [HF0.out, hd4, Bool.and_true])
              clear hk1 hk2
              gi_wp2_with (refine ⟨trivial, ?_⟩; gi_at_call 11; refine (callsIn_wide.2 (Find_calls HTT.out _ hnm)).mono ?_; rw [HF.out]; rintro e w7 ⟨rfl, rfl⟩)
              exact ali_step HII.out HC2.out HA2.out _ (by rw [set_same HMX.out rfl, set_same HAX.out rfl])
    case stop =>
      rintro D c2 pre W hD ⟨j, hj, hpre⟩ ⟨q, x, rfl, hb⟩ hK
      exfalso
      cases j with
      | zero => simp [sees] at hpre
      | succ j =>
        rw [sees_succ, List.map_append] at hpre
        have h2 := List.append_inj_right' hpre rfl
        have h3 : x.key = ((j : Int), rd_En xs (j : Int)) := by simpa using h2
        obtain ⟨k, hk, hkj⟩ := fnd_entry (xs := xs) (j := j) (by omega)
        have e1 : x.j = (j : Int) := congrArg Prod.fst h3
        have e2 : x.x = rd_En xs (j : Int) := congrArg Prod.snd h3
        unfold badA at hb
        rw [e1, e2, hk] at hb
        rcases hb with h | ⟨k2, h, h4⟩
        · cases h
        · injection h with h; omega
    case done =>
      rintro D ys W hD hys hI hK
      obtain ⟨cn, hcn⟩ : ∃ q : Nat, q = cntM (ys.map AE.key) := ⟨_, rfl⟩
      obtain ⟨al, hal⟩ : ∃ q, q = alnB xs (ys.map AE.key) := ⟨_, rfl⟩
      have hLAW := alone_law xs
      rw [← hys, ← hcn, ← hal] at hLAW
      have hmx := hI.mx
      have hax := hI.ax
      rw [← hcn] at hmx
      rw [← hal] at hax
      have hBw : Below w4.heap.size w4 W := hI.bel
      have HCF := fun W' (h : Below w4.heap.size w4 W') => CFaults_calls (HT4.out.later h) (by omega)
      obtain ⟨q, hq⟩ : ∃ q, q = (setF (classFs xs (mainOf xs))).length := ⟨_, rfl⟩
      rw [← hq] at hLAW
      have HQ := Lib.hid hq
      have HCF2 := Lib.hid HCF
      have HTX := Lib.hid hI.tx
      have HMX := Lib.hid hmx
      have HAX := Lib.hid hax
      have HBW := Lib.hid hBw
      have HKD := Lib.hid hK
      have HD := Lib.hid hD
      have hsz := hI.size
      have hDl : D < W.heap.size := (Array.getElem?_eq_some_iff.1 hK).1
      have hDb : w4.heap.size + 4 ≤ D := by omega
      have HLAW := Lib.hid hLAW
      clear hLAW hmx hax hBw HCF hq hI hK hD hys hcn hal
      gi_wp2_with fail
      go_upto_region 17 with (fail)
      have s1 : W.cell? ⟨w4.heap.size, 0, none⟩ = some (.pointer (some ⟨tb, 0, none⟩)) := (cell_blk HTX.out 0).trans rfl
      have s2 : W.cell? ⟨w4.heap.size + 1, 0, none⟩ = some (.int .i64 cn) := (cell_blk HMX.out 0).trans rfl
      have s3 : W.cell? ⟨w4.heap.size + 2, 0, none⟩ = some (.bool al) := (cell_blk HAX.out 0).trans rfl
      have s4 : Below w4.heap.size w4 W := HBW.out
      have s5 : W.cell? ⟨w.heap.size, 0, none⟩ = some (.bool false) := (cell_blk ((HBW.out.block w.heap.size hz4).trans HB4.out) 0).trans rfl
      have s6 : W.frozen? ⟨w.heap.size, 0, none⟩ = false := frozen_blk ((HBW.out.block w.heap.size hz4).trans HB4.out) 0
      obtain ⟨bb, hbb, hcc⟩ : ∃ bb : Bool, ((q : Int) == 0) = bb ∧ (al && ((cn : Int) == 1)) = bb := ⟨_, rfl, by
        have h1 := HLAW.out
        have h2 : (((q : Int) == 0) = true ↔ q = 0) := by simp
        have h3 : ((al && ((cn : Int) == 1)) = true ↔ (al = true ∧ cn = 1)) := by
          rw [Bool.and_eq_true]
          constructor
          · rintro ⟨a, b⟩; have h4 : (cn : Int) = 1 := by simpa using b
            exact ⟨a, by omega⟩
          · rintro ⟨a, b⟩; exact ⟨a, by rw [b]; rfl⟩
        rw [Bool.eq_iff_iff, h2, h3, h1]⟩
      cases al with
      | false =>
        have hb0 : bb = false := by simpa using hcc.symm
        subst hb0
        clear hcc
        refine wp_noP ?_
        obtain ⟨w8, hw8⟩ : ∃ w8, w8 = W.drew := ⟨_, rfl⟩
        have HB8 := Lib.hid (show Below W.heap.size W w8 by rw [hw8]; exact below_drew1 W)
        have S8 : w8.cell? ⟨w4.heap.size, 0, none⟩ = some (.pointer (some ⟨tb, 0, none⟩)) ∧ w8.cell? ⟨w4.heap.size + 1, 0, none⟩ = some (.int .i64 cn) ∧ w8.cell? ⟨w4.heap.size + 2, 0, none⟩ = some (.bool false) := ⟨cell_later HB8.out s1, cell_later HB8.out s2, cell_later HB8.out s3⟩
        rw [hw8] at S8
        refine wp_region_ordG (fun w' => w'.cell? ⟨w4.heap.size, 0, none⟩ = some (.pointer (some ⟨tb, 0, none⟩)) ∧ w'.cell? ⟨w4.heap.size + 1, 0, none⟩ = some (.int .i64 cn) ∧ w'.cell? ⟨w4.heap.size + 2, 0, none⟩ = some (.bool false)) [9, 10] [(0, false), (4, false)] 1 8 #[true, false, false, false, true, false, false, false, false, false, false] (by kernel_rfl) (by kernel_rfl) (by kernel_rfl) (by kernel_rfl) (fun _ _ _ _ h => h.elim) S8 (fun K hK => ?_)
        rw [← hw8] at hK S8
        clear hw8
        simp only [pickHead, List.getElem?_cons_succ, List.getElem?_cons_zero]
        repeat (first
          | (refine ordHead_pure rfl rfl ?_; apply Exists.intro; refine ⟨fun w' => ?_, ?_⟩; (go_simp; with_reducible rfl); apply Exists.intro; refine ⟨?_, ?_⟩; (simp only [Act.put, List.setIfInBounds_toArray, List.set_cons_zero, List.set_cons_succ]; rfl))
          | (refine ordHead_read rfl rfl ?_; apply Exists.intro; refine ⟨?_, ?_⟩; (rintro w' ⟨z0, z1, z2⟩; go_simp; with_reducible rfl); apply Exists.intro; refine ⟨?_, ?_⟩; (simp only [Act.put, List.setIfInBounds_toArray, List.set_cons_zero, List.set_cons_succ]; rfl))
          | (refine ordHead_off (by rfl) rfl ?_; apply Exists.intro; refine ⟨?_, ?_⟩; (simp only [Act.put, List.setIfInBounds_toArray, List.set_cons_zero, List.set_cons_succ]; rfl))
          | (refine ordHead_on (by rfl) rfl ?_; apply Exists.intro; refine ⟨?_, ?_⟩; (intro w' hs; (try (obtain ⟨z0, z1, z2⟩ := hs rfl)); go_simp; with_reducible rfl); apply Exists.intro; refine ⟨?_, ?_⟩; (simp only [Act.put, List.setIfInBounds_toArray, List.set_cons_zero, List.set_cons_succ]; rfl)))
        refine ordHead_nil (hK _ ?_)
        refine ordG_one 1 (by kernel_rfl) rfl ?_
        go_wp2_with fail
        refine (HCF2.out w8 (below_step s4 HB8.out)).mono ?_
        rw [← HQ.out]
        rintro e w9 ⟨A9, c9, rfl, hC9, h9⟩
        have S9 : w9.cell? ⟨w4.heap.size, 0, none⟩ = some (.pointer (some ⟨tb, 0, none⟩)) ∧ w9.cell? ⟨w4.heap.size + 1, 0, none⟩ = some (.int .i64 cn) ∧ w9.cell? ⟨w4.heap.size + 2, 0, none⟩ = some (.bool false) := ⟨cell_later h9 S8.1, cell_later h9 S8.2.1, cell_later h9 S8.2.2⟩
        have HB9 := Lib.hid (below_step (below_step s4 HB8.out) h9)
        have HR9 := Lib.hid ((HB9.out.block w.heap.size hz4).trans HB4.out)
        have HK9 := Lib.hid ((h9.block D (by have := HB8.out.size; omega)).trans ((HB8.out.block D hDl).trans HKD.out))
        have r0 := (cell_blk HR9.out 0).trans rfl
        have fr := frozen_blk HR9.out 0
        clear hC9 h9 S8 s1 s2 s3 s5 s6
        go_wp2_with fail
        refine ordG_head (n2 := 2) (m2 := 0) [(2, true), (3, true), (5, true), (6, false), (7, true), (8, true)] #[true, true, true, true, true, true, true, true, true, false, false] (by kernel_rfl) rfl (by kernel_rfl) (fun _ _ _ _ h => h.elim) S9 (fun K2 hK2 => ?_)
        simp only [pickHead, List.getElem?_cons_succ, List.getElem?_cons_zero]
        repeat (first
          | (refine ordHead_pure rfl rfl ?_; apply Exists.intro; refine ⟨fun w' => ?_, ?_⟩; (go_simp; with_reducible rfl); apply Exists.intro; refine ⟨?_, ?_⟩; (simp only [Act.put, List.setIfInBounds_toArray, List.set_cons_zero, List.set_cons_succ]; rfl))
          | (refine ordHead_read rfl rfl ?_; apply Exists.intro; refine ⟨?_, ?_⟩; (rintro w' ⟨z0, z1, z2⟩; go_simp; with_reducible rfl); apply Exists.intro; refine ⟨?_, ?_⟩; (simp only [Act.put, List.setIfInBounds_toArray, List.set_cons_zero, List.set_cons_succ]; rfl))
          | (refine ordHead_off (by rfl) rfl ?_; apply Exists.intro; refine ⟨?_, ?_⟩; (simp only [Act.put, List.setIfInBounds_toArray, List.set_cons_zero, List.set_cons_succ]; rfl))
          | (refine ordHead_on (by rfl) rfl ?_; apply Exists.intro; refine ⟨?_, ?_⟩; (intro w' hs; (try (obtain ⟨z0, z1, z2⟩ := hs rfl)); go_simp; with_reducible rfl); apply Exists.intro; refine ⟨?_, ?_⟩; (simp only [Act.put, List.setIfInBounds_toArray, List.set_cons_zero, List.set_cons_succ]; rfl)))
        refine ordHead_nil (hK2 _ ?_)
        refine ordG_oneD 9 (by kernel_rfl) (by kernel_rfl) rfl ?_
        go_wp2_with fail
        refine ordG_oneD 10 (by kernel_rfl) (by kernel_rfl) rfl ?_
        go_wp2_with fail
        refine ordG_end (by kernel_rfl) ?_
        go_wp2_with fail
        simp only [noP]
        go_wp2_with fail
        have hK11 : (w9.setCell ⟨w.heap.size, 0, none⟩ (.bool true)).heap[D]? = some (Obj.deferred (some [])) := by
          rw [Below.heap_setCell _ _ _ _ (by show D ≠ w.heap.size; omega)]; exact HK9.out
        refine ⟨by simp, .inl ⟨_, _, rfl, run_takeDeferred hK11, ?_⟩⟩
        refine ⟨_, resB Tryz.results3 rfl ((World.putObj_heap_other (by omega)).trans (heap_setCell_same HR9.out 0 (.bool true))), rfl, ?_⟩
        exact below_putObj ((HA4.out.trans (HB9.out.mono (by omega))).setCell (p := ⟨w.heap.size, 0, none⟩) (Nat.le_refl _) _) (by omega) _
      | true =>
        have hb1 : ((cn : Int) == 1) = bb := by simpa using hcc
        clear hcc
        refine wp_noP ?_
        obtain ⟨w8, hw8⟩ : ∃ w8, w8 = W.drew := ⟨_, rfl⟩
        have HB8 := Lib.hid (show Below W.heap.size W w8 by rw [hw8]; exact below_drew1 W)
        have S8 : w8.cell? ⟨w4.heap.size, 0, none⟩ = some (.pointer (some ⟨tb, 0, none⟩)) ∧ w8.cell? ⟨w4.heap.size + 1, 0, none⟩ = some (.int .i64 cn) ∧ w8.cell? ⟨w4.heap.size + 2, 0, none⟩ = some (.bool true) := ⟨cell_later HB8.out s1, cell_later HB8.out s2, cell_later HB8.out s3⟩
        rw [hw8] at S8
        refine wp_region_ordG (fun w' => w'.cell? ⟨w4.heap.size, 0, none⟩ = some (.pointer (some ⟨tb, 0, none⟩)) ∧ w'.cell? ⟨w4.heap.size + 1, 0, none⟩ = some (.int .i64 cn) ∧ w'.cell? ⟨w4.heap.size + 2, 0, none⟩ = some (.bool true)) [9, 10] [(0, false), (4, false)] 1 8 #[true, false, false, false, true, false, false, false, false, false, false] (by kernel_rfl) (by kernel_rfl) (by kernel_rfl) (by kernel_rfl) (fun _ _ _ _ h => h.elim) S8 (fun K hK => ?_)
        rw [← hw8] at hK S8
        clear hw8
        simp only [pickHead, List.getElem?_cons_succ, List.getElem?_cons_zero]
        repeat (first
          | (refine ordHead_pure rfl rfl ?_; apply Exists.intro; refine ⟨fun w' => ?_, ?_⟩; (go_simp; with_reducible rfl); apply Exists.intro; refine ⟨?_, ?_⟩; (simp only [Act.put, List.setIfInBounds_toArray, List.set_cons_zero, List.set_cons_succ]; rfl))
          | (refine ordHead_read rfl rfl ?_; apply Exists.intro; refine ⟨?_, ?_⟩; (rintro w' ⟨z0, z1, z2⟩; go_simp; with_reducible rfl); apply Exists.intro; refine ⟨?_, ?_⟩; (simp only [Act.put, List.setIfInBounds_toArray, List.set_cons_zero, List.set_cons_succ]; rfl))
          | (refine ordHead_off (by rfl) rfl ?_; apply Exists.intro; refine ⟨?_, ?_⟩; (simp only [Act.put, List.setIfInBounds_toArray, List.set_cons_zero, List.set_cons_succ]; rfl))
          | (refine ordHead_on (by rfl) rfl ?_; apply Exists.intro; refine ⟨?_, ?_⟩; (intro w' hs; (try (obtain ⟨z0, z1, z2⟩ := hs rfl)); go_simp; with_reducible rfl); apply Exists.intro; refine ⟨?_, ?_⟩; (simp only [Act.put, List.setIfInBounds_toArray, List.set_cons_zero, List.set_cons_succ]; rfl)))
        refine ordHead_nil (hK _ ?_)
        refine ordG_one 1 (by kernel_rfl) rfl ?_
        go_wp2_with fail
        refine (HCF2.out w8 (below_step s4 HB8.out)).mono ?_
        rw [← HQ.out]
        rintro e w9 ⟨A9, c9, rfl, hC9, h9⟩
        have S9 : w9.cell? ⟨w4.heap.size, 0, none⟩ = some (.pointer (some ⟨tb, 0, none⟩)) ∧ w9.cell? ⟨w4.heap.size + 1, 0, none⟩ = some (.int .i64 cn) ∧ w9.cell? ⟨w4.heap.size + 2, 0, none⟩ = some (.bool true) := ⟨cell_later h9 S8.1, cell_later h9 S8.2.1, cell_later h9 S8.2.2⟩
        have HB9 := Lib.hid (below_step (below_step s4 HB8.out) h9)
        have HR9 := Lib.hid ((HB9.out.block w.heap.size hz4).trans HB4.out)
        have HK9 := Lib.hid ((h9.block D (by have := HB8.out.size; omega)).trans ((HB8.out.block D hDl).trans HKD.out))
        have r0 := (cell_blk HR9.out 0).trans rfl
        have fr := frozen_blk HR9.out 0
        clear hC9 h9 S8 s1 s2 s3 s5 s6
        go_wp2_with fail
        refine ordG_head (n2 := 2) (m2 := 0) [(2, true), (3, true), (5, true), (6, false), (7, true), (8, true)] #[true, true, true, true, true, true, true, true, true, false, false] (by kernel_rfl) rfl (by kernel_rfl) (fun _ _ _ _ h => h.elim) S9 (fun K2 hK2 => ?_)
        simp only [pickHead, List.getElem?_cons_succ, List.getElem?_cons_zero]
        repeat (first
          | (refine ordHead_pure rfl rfl ?_; apply Exists.intro; refine ⟨fun w' => ?_, ?_⟩; (go_simp; with_reducible rfl); apply Exists.intro; refine ⟨?_, ?_⟩; (simp only [Act.put, List.setIfInBounds_toArray, List.set_cons_zero, List.set_cons_succ]; rfl))
          | (refine ordHead_read rfl rfl ?_; apply Exists.intro; refine ⟨?_, ?_⟩; (rintro w' ⟨z0, z1, z2⟩; go_simp; with_reducible rfl); apply Exists.intro; refine ⟨?_, ?_⟩; (simp only [Act.put, List.setIfInBounds_toArray, List.set_cons_zero, List.set_cons_succ]; rfl))
          | (refine ordHead_off (by rfl) rfl ?_; apply Exists.intro; refine ⟨?_, ?_⟩; (simp only [Act.put, List.setIfInBounds_toArray, List.set_cons_zero, List.set_cons_succ]; rfl))
          | (refine ordHead_on (by rfl) rfl ?_; apply Exists.intro; refine ⟨?_, ?_⟩; (intro w' hs; (try (obtain ⟨z0, z1, z2⟩ := hs rfl)); go_simp; with_reducible rfl); apply Exists.intro; refine ⟨?_, ?_⟩; (simp only [Act.put, List.setIfInBounds_toArray, List.set_cons_zero, List.set_cons_succ]; rfl)))
        refine ordHead_nil (hK2 _ ?_)
        refine ordG_oneD 9 (by kernel_rfl) (by kernel_rfl) rfl ?_
        go_wp2_with fail
        refine ordG_oneD 10 (by kernel_rfl) (by kernel_rfl) rfl ?_
        go_wp2_with fail
        refine ordG_end (by kernel_rfl) ?_
        go_wp2_with fail
        simp only [noP]
        go_wp2_with fail
        have hK11 : (w9.setCell ⟨w.heap.size, 0, none⟩ (.bool true)).heap[D]? = some (Obj.deferred (some [])) := by
          rw [Below.heap_setCell _ _ _ _ (by show D ≠ w.heap.size; omega)]; exact HK9.out
        refine ⟨by simp, .inl ⟨_, _, rfl, run_takeDeferred hK11, ?_⟩⟩
        refine ⟨_, resB Tryz.results3 rfl ((World.putObj_heap_other (by omega)).trans (heap_setCell_same HR9.out 0 (.bool true))), rfl, ?_⟩
        exact below_putObj ((HA4.out.trans (HB9.out.mono (by omega))).setCell (p := ⟨w.heap.size, 0, none⟩) (Nat.le_refl _) _) (by omega) _
end Go.Proofs.YtbfkkepdeepdeaaGreatDoor
end
