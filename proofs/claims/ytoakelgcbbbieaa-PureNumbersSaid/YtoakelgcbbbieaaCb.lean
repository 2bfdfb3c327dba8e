/- A range over an iterator that itself goes by a range: what such an iterator promises, and the law of the loop over it. -/
import Derived.Test.YtoakelgcbbbieaaCa
import Derived.Test.YtoakelgcbbbieaaBd
import Derived.RangeFuncWrites
namespace Go.Proofs.Ytoakelgcbbbieaa
open Go.RowKit Go.Maps Go.Shelf Go.Proofs.YtoakelgcbbbieaaW.PrintWords Go.Proofs.YtoakelgcbbbieaaW.PrintLast Go.Proofs.YtoakelgcbbbieaaW.PrintMore
set_option linter.unusedVariables false
set_option linter.unusedSimpArgs false

/-- what a round keeps: all below n₀, all from b₀ on -/
structure KpY (n₀ b₀ : Nat) (A B : World) : Prop where
  bel : Below n₀ A B
  keep : ∀ k, b₀ ≤ k → k < A.heap.size → B.heap[k]? = A.heap[k]?
theorem KpY.refl (n₀ b₀ : Nat) (A : World) : KpY n₀ b₀ A A := ⟨Below.refl _ _, fun _ _ _ => rfl⟩
theorem KpY.trans {n₀ b₀ : Nat} {A B C : World} (h : KpY n₀ b₀ A B) (k : KpY n₀ b₀ B C) : KpY n₀ b₀ A C :=
  ⟨h.bel.trans k.bel, fun i h1 h2 => (k.keep i h1 (Nat.lt_of_lt_of_le h2 h.bel.size)).trans (h.keep i h1 h2)⟩
theorem KpY.of_below {n₀ b₀ : Nat} {A B : World} (h : Below A.heap.size A B) (hn : n₀ ≤ A.heap.size) : KpY n₀ b₀ A B := ⟨h.mono hn, fun k _ h2 => h.block k h2⟩
theorem KpY.put {n₀ b₀ : Nat} (W : World) (l : Nat) (o' : Obj) (hl : n₀ ≤ l) (hb : l < b₀) : KpY n₀ b₀ W (W.putObj l o') :=
  ⟨below_putObj (Below.refl _ _) hl _, fun k h1 _ => World.putObj_heap_other (by omega)⟩
theorem KpY.set {n₀ b₀ : Nat} (W : World) (b o : Nat) (v : Value) (h1 : n₀ ≤ b) (h2 : b < b₀) : KpY n₀ b₀ W (W.setCell ⟨b, o, none⟩ v) :=
  ⟨(Below.refl _ _).setCell (p := ⟨b, o, none⟩) h1 _, fun k hk _ => Below.heap_setCell _ _ _ k (by show k ≠ b; omega)⟩
theorem KpY.grown {n₀ b₀ : Nat} {A B : World} {b : Nat} (h : A.grownBy B (some b)) (h1 : n₀ ≤ b) (h2 : b < b₀) (hn : n₀ ≤ A.heap.size) : KpY n₀ b₀ A B :=
  ⟨below_grown h h1 hn, fun k hk hl => h.block k hl (fun e => by cases e; omega)⟩
theorem KpY.x {n₀ b₀ b₁ : Nat} {A B : World} (h : KpY n₀ b₀ A B) (hb : b₀ ≤ b₁) : KpX n₀ b₁ A B :=
  ⟨h.bel, fun k o h1 h2 _ => (h.keep k (by omega) (Array.getElem?_eq_some_iff.1 h2).1).trans h2⟩
theorem KpY.from {n₀ b₀ B' : Nat} {A B : World} (h : KpY n₀ b₀ A B) (hb : b₀ ≤ B') : KeepsFrom B' A B :=
  ⟨h.bel.size, fun k o h1 h2 _ => (h.keep k (by omega) (Array.getElem?_eq_some_iff.1 h2).1).trans h2⟩

theorem keepsFrom_put {b₀ : Nat} (W : World) (l : Nat) (o' : Obj) (hb : l < b₀) : KeepsFrom b₀ W (W.putObj l o') :=
  ⟨by simp, fun k o h1 h2 _ => (World.putObj_heap_other (by omega)).trans h2⟩
theorem keepsFrom_up {B B' : Nat} {W W' : World} (h : KeepsFrom B W W') (hb : B ≤ B') : KeepsFrom B' W W' := ⟨h.size, fun k o h1 h2 h3 => h.same k o (by omega) h2 h3⟩

/-- what an iterator promises whose invariants abide the turn of any block but cells, laid since its call began -/
def SeqL {α : Type} (b₀ n : Nat) (P : Program) (g : Nat) (lb : Array Value) (encs : α → Array Value) (Kp : World → World → Prop) (S Sp : List α → Prop) (N : Nat) (w : World) : Prop :=
  ∀ (l : Nat) (J Jx : List α → World → Prop) (W : World), Below w.heap.size w W → w.heap.size + 2 ≤ W.heap.size → OwnFrom W.heap.size J → OwnFrom W.heap.size Jx →
    (∀ m pre x W1, J pre W1 → pre.length < N → YieldAt Fence.wide m P l (encs x) W1 fun e W' =>
      (e = .returned (.bool true) ∧ J (pre ++ [x]) W' ∧ Kp W1 W') ∨ (e = .returned (.bool false) ∧ Jx (pre ++ [x]) W' ∧ KeepsFrom b₀ W1 W')) →
    J [] W →
    CallsIn Fence.wide n P g (#[.func (.yield l) #[] #[]] ++ lb) W fun e W' => (∃ v, e = .returned v) ∧ ((∃ xs, S xs ∧ J xs W') ∨ (∃ pre, Sp pre ∧ Jx pre W'))

/-- the law of a loop over such an iterator: the round's own two blocks lie where the loop began -/
theorem range_seqL {α : Type} {n : Nat} {P : Program} {g : Operand} {ps : Array Tmp} {assign body : Code} {Q : Exit → Act → World → Prop} {a : Act} {w : World} (h1 : 1 ≤ n) {gf : Nat} {lb : Array Value}
    (hg : a.eval g = .func (.func gf) #[] lb) (eg : ∀ args w, (callFunc gf args).run P w = .ok (.enter gf args) w)
    {encs : α → Array Value} {Kp : World → World → Prop} {S Sp : List α → Prop} {N : Nat} {w0 : World} (hseq : SeqL (w.heap.size + 2) (n - 1) P gf lb encs Kp S Sp N w0)
    (hKt : ∀ {A B C : World}, Kp A B → Kp B C → Kp A C) (hKb : ∀ (W : World) (o' : Obj), Kp W (W.putObj (w.heap.size + 1) o')) (hb0 : Below w0.heap.size w0 w) (hps : ∀ x, (encs x).size = ps.size)
    (I : List α → World → Prop) (Ix : Code → List α → World → Prop) (hI : OwnFrom w.heap.size I) (hIx : ∀ c, OwnFrom w.heap.size (Ix c)) (h0 : I [] w) (Ax : α → Act → World → Prop) (hAx : ∀ x a', OwnFrom w.heap.size (fun (_ : Unit) W => Ax x a' W))
    (hassign : ∀ (l m : Nat) (pre : List α) (x : α) (W : World) (K : Act → World → Prop), I pre W → (∀ a' W', KeepsFrom w.heap.size W W' → Kp W W' → I pre W' → Ax x a' W' → K a' W') →
      assign.wpIn (Fence.wide.inRound l) m P (Exit.then K (fun _ _ _ => False)) { tmps := (ps.zip (encs x)).foldl (fun t (p, v) => t.setIfInBounds p v) a.tmps, defers := [] } W)
    (hbody : ∀ (l m : Nat) (pre : List α) (x : α) (a' : Act) (W : World), w.heap.size ≤ l → I pre W → Ax x a' W → pre.length < N → body.wpIn (Fence.wide.inRound l) m P (ownPostG w.heap.size Kp I Ix (pre ++ [x]) W) a' W)
    (hdone : ∀ (D : Nat) (xs : List α) (W : World), w.heap.size ≤ D → S xs → I xs W → W.heap[D]? = some (.deferred (some [])) → Q .normal { a with defers := { target := .collected D, args := #[] } :: a.defers } W)
    (hstop : ∀ (D : Nat) (c : Code) (pre : List α) (W : World), w.heap.size ≤ D → Sp pre → Ix c pre W → W.heap[D]? = some (.deferred (some [])) → c.wpIn Fence.wide n P Q { a with defers := { target := .collected D, args := #[] } :: a.defers } W) :
    (Code.rangeFunc g ps assign body).wpIn Fence.wide n P Q a w := by
  refine wpIn_rangeFunc fun fn hfn => ?_
  -- the loop's record at each stage, and the world in which the iterator is called
  let rec_ : LoopState → Option Code → Loop := fun st pe => { state := st, pending := pe, fn, tmps := a.tmps, params := ps, assign, body, defers := w.heap.size }
  obtain ⟨rec, hrec⟩ : ∃ rec : LoopState → Option Code → Loop, rec = rec_ := ⟨_, rfl⟩
  let L := w.heap.size + 1
  obtain ⟨V, hV⟩ : ∃ V, (w.alloc (.deferred (some []))).alloc (.loop (rec .ready none)) = V := ⟨_, rfl⟩
  have vL : V.heap[w.heap.size + 1]? = some (.loop (rec .ready none)) := by
    have := World.alloc_heap_new (w.alloc (.deferred (some []))) (.loop (rec .ready none))
    rw [← hV]; rwa [World.size_alloc] at this
  have vD : V.heap[w.heap.size]? = some (.deferred (some [])) := by
    rw [← hV]; exact (Below.heap_alloc _ _ _ (by simp)).trans (World.alloc_heap_new w _)
  have vS : V.heap.size = w.heap.size + 2 := by rw [← hV]; simp
  have vI : I [] V := by rw [← hV]; exact hI.alloc _ (hI.alloc _ h0)
  have vB : Below w0.heap.size w0 V := by
    rw [← hV]; exact hb0.trans ((((Below.refl _ w).alloc (Nat.le_refl _) _).alloc (by simp) _).mono hb0.size)
  refine ⟨w.heap.size + 1, [{ target := .collected w.heap.size, args := #[] }], V, { target := .fn (.func gf) lb, args := #[.func (.yield (w.heap.size + 1)) #[] #[]] }, V, gf,
    #[.func (.yield (w.heap.size + 1)) #[] #[]] ++ lb, V, ?_, ?_, fun _ _ => trivial, ?_, fun _ => h1, ?_⟩
  · rw [← hV, hrec]; exact run_enterLoop_outer _ _ _ _ _
  · simp only [resolve, hg]
    simp [go_sem]
  · simp [invoke, go_sem, eg]
  · -- between rounds: I, and the two blocks as they were laid
    have keep : ∀ {A B : World} {row : Option Nat} {k : Nat} {o : Obj}, A.grownBy B row → (∀ r, row = some r → V.heap.size ≤ r ∧ ∃ o : Obj, A.heap[r]? = some o ∧ o.isCells = false) → k < V.heap.size → A.heap[k]? = some o → B.heap[k]? = some o :=
      fun hg hr hk h => (hg.block _ (Array.getElem?_eq_some_iff.1 h).1 (fun e => by have := (hr _ e.symm).1; omega)).trans h
    have wide : ∀ {A : World} {row : Option Nat}, (∀ r, row = some r → V.heap.size ≤ r ∧ ∃ o : Obj, A.heap[r]? = some o ∧ o.isCells = false) → ∀ r, row = some r → w.heap.size ≤ r ∧ ∃ o : Obj, A.heap[r]? = some o ∧ o.isCells = false :=
      fun hr r e => ⟨by have := (hr r e).1; omega, (hr r e).2⟩
    refine (hseq (w.heap.size + 1)
      (fun pre W => I pre W ∧ W.heap[w.heap.size + 1]? = some (.loop (rec .ready none)) ∧ W.heap[w.heap.size]? = some (.deferred (some [])))
      (fun pre W => ∃ c, Ix c pre W ∧ W.heap[w.heap.size + 1]? = some (.loop (rec .done (some c))) ∧ W.heap[w.heap.size]? = some (.deferred (some [])))
      V vB (by have := hb0.size; omega) (fun s A B row hs hg' hr => ⟨hI s A B row hs.1 hg' (wide hr), keep hg' hr (by omega) hs.2.1, keep hg' hr (by omega) hs.2.2⟩)
      (fun s A B row ⟨c, hc, hl, hk⟩ hg' hr => ⟨c, hIx c s A B row hc hg' (wide hr), keep hg' hr (by omega) hl, keep hg' hr (by omega) hk⟩)
      ?_ ⟨vI, vL, vD⟩).mono ?_
    · rintro m pre x W ⟨hi, hl, hk⟩ hlen
      have hy := run_yield (P := P) (args := encs x) hl (by rw [hrec]; exact hps x)
      rw [hrec] at hy
      refine ⟨fn, _, assign, body, hy, roundIn_of_wpIn hfn (hassign _ _ pre x W _ hi fun a' U kU pU iU aU => ?_)⟩
      have uL := kU.same _ _ (Nat.le_succ _) hl rfl
      have uD := kU.same _ _ (Nat.le_refl _) hk rfl
      have hlt : w.heap.size + 1 < U.heap.size := (Array.getElem?_eq_some_iff.1 uL).1
      refine ⟨_, run_beginRound uL (by rw [hrec]), ?_⟩
      have bL : (U.putObj (w.heap.size + 1) (.loop { rec .ready none with state := .busy })).heap[w.heap.size + 1]? = some (.loop { rec .ready none with state := .busy }) := World.putObj_heap_same hlt
      have bD : (U.putObj (w.heap.size + 1) (.loop { rec .ready none with state := .busy })).heap[w.heap.size]? = some (.deferred (some [])) := (World.putObj_heap_other (by omega)).trans uD
      have over : ∀ (jump : Option Code) (X : World), KeepsFrom w.heap.size (U.putObj (w.heap.size + 1) (.loop { rec .ready none with state := .busy })) X →
          (Instr.endRound (w.heap.size + 1) jump).run P X = .ok (.bool jump.isNone) (X.putObj (w.heap.size + 1) (.loop (rec (if jump.isNone then .ready else .done) jump))) ∧
          X.heap[w.heap.size + 1]? = some (.loop { rec .ready none with state := .busy }) ∧
          (X.putObj (w.heap.size + 1) (.loop (rec (if jump.isNone then .ready else .done) jump))).heap[w.heap.size + 1]? = some (.loop (rec (if jump.isNone then .ready else .done) jump)) ∧
          (X.putObj (w.heap.size + 1) (.loop (rec (if jump.isNone then .ready else .done) jump))).heap[w.heap.size]? = some (.deferred (some [])) := fun jump X kX => by
        have xL := kX.same _ _ (Nat.le_succ _) bL rfl
        have hr := run_endRound (P := P) jump xL
        rw [hrec] at hr ⊢
        exact ⟨hr, by rw [hrec] at xL; exact xL, World.putObj_heap_same (Array.getElem?_eq_some_iff.1 xL).1, (World.putObj_heap_other (by omega)).trans (kX.same _ _ (Nat.le_refl _) bD rfl)⟩
      refine wpIn_mono (hbody _ _ pre x a' _ (Nat.le_succ _) (hI.putObj _ iU (Nat.le_succ _) uL rfl) ((hAx x a').putObj (s := ()) _ aU (Nat.le_succ _) uL rfl) hlen) ?_
      rintro e a3 X hp
      have left : ∀ c, (KeepsFrom w.heap.size (U.putObj (w.heap.size + 1) (.loop { rec .ready none with state := .busy })) X ∧ Ix c (pre ++ [x]) X) → ∃ c', Ix c' (pre ++ [x]) (X.putObj (w.heap.size + 1) (.loop (rec .done (some c)))) ∧ c' = c := fun c hc =>
        ⟨c, (hIx _).putObj _ hc.2 (Nat.le_succ _) (over (some c) X hc.1).2.1 rfl, rfl⟩
      have kept : ∀ (o' : Obj), KeepsFrom w.heap.size (U.putObj (w.heap.size + 1) (.loop { rec .ready none with state := .busy })) X → KeepsFrom (w.heap.size + 2) W (X.putObj (w.heap.size + 1) o') := fun o' hX =>
        ((keepsFrom_up kU (by omega)).trans (keepsFrom_put _ _ _ (by omega))).trans ((keepsFrom_up hX (by omega)).trans (keepsFrom_put _ _ _ (by omega)))
      cases e with
      | normal =>
        obtain ⟨kX, pX, iX⟩ := hp
        obtain ⟨hr, q1, q2, q3⟩ := over none X kX
        exact ⟨_, _, hr, .inl ⟨rfl, ⟨hI.putObj _ iX (Nat.le_succ _) q1 rfl, q2, q3⟩, hKt pU (hKt (hKt (hKb _ _) pX) (hKb _ _))⟩⟩
      | ret =>
        obtain ⟨c', i', rfl⟩ := left _ hp
        obtain ⟨hr, q1, q2, q3⟩ := over (some .ret) X hp.1
        exact ⟨_, _, hr, .inr ⟨rfl, ⟨_, i', q2, q3⟩, kept _ hp.1⟩⟩
      | exit id =>
        obtain ⟨c', i', rfl⟩ := left _ hp
        obtain ⟨hr, q1, q2, q3⟩ := over (some (.exit id)) X hp.1
        exact ⟨_, _, hr, .inr ⟨rfl, ⟨_, i', q2, q3⟩, kept _ hp.1⟩⟩
      | goto t =>
        obtain ⟨c', i', rfl⟩ := left _ hp
        obtain ⟨hr, q1, q2, q3⟩ := over (some (.goto t)) X hp.1
        exact ⟨_, _, hr, .inr ⟨rfl, ⟨_, i', q2, q3⟩, kept _ hp.1⟩⟩
      | panic ch => exact hp.elim
      | outgrown => exact hp.elim
    · rintro e X ⟨⟨v, rfl⟩, (⟨xs, hS, hi, hl, hk⟩ | ⟨pre, hSp, c, hi, hl, hk⟩)⟩
      · exact ⟨none, _, by have := run_endLoop (P := P) hl (by rw [hrec]; simp [rec_]); rw [hrec] at this; exact this, hdone _ xs _ (Nat.le_refl _) hS (hI.putObj _ hi (Nat.le_succ _) hl rfl) ((World.putObj_heap_other (by omega)).trans hk)⟩
      · exact ⟨some c, _, by have := run_endLoop (P := P) hl (by rw [hrec]; simp [rec_]); rw [hrec] at this; exact this, hstop _ c pre _ (Nat.le_refl _) hSp ((hIx c).putObj _ hi (Nat.le_succ _) hl rfl) ((World.putObj_heap_other (by omega)).trans hk)⟩

/-- a round's frame: what is handed over, its box -/
abbrev tmpsB (T : Array Value) (p q : Tmp) (v : Value) (Bx : Nat) : Array Value := (T.setIfInBounds p v).setIfInBounds q (.pointer (some ⟨Bx, 0, none⟩))
/-- the same law where the loop's one variable lies in a box -/
theorem range_boxL {α : Type} {n : Nat} {P : Program} {g : Operand} {p : Tmp} (q : Tmp) {assign body : Code} {Q : Exit → Act → World → Prop} {a : Act} {w : World} (h1 : 1 ≤ n) {gf : Nat} {lb : Array Value}
    (hg : a.eval g = .func (.func gf) #[] lb) (eg : ∀ args w, (callFunc gf args).run P w = .ok (.enter gf args) w)
    (enc1 : α → Value) (cells : α → Array Value) (ty : TypeId) {Kp : World → World → Prop} {S Sp : List α → Prop} {N : Nat} {w0 : World} (hseq : SeqL (w.heap.size + 2) (n - 1) P gf lb (fun x => #[enc1 x]) Kp S Sp N w0)
    (hKt : ∀ {A B C : World}, Kp A B → Kp B C → Kp A C) (hKb : ∀ (W : World) (o' : Obj), Kp W (W.putObj (w.heap.size + 1) o')) (hb0 : Below w0.heap.size w0 w)
    (I : List α → World → Prop) (Ix : Code → List α → World → Prop) (hI : OwnFrom w.heap.size I) (hIx : ∀ c, OwnFrom w.heap.size (Ix c)) (h0 : I [] w)
    (hassign : ∀ (l m : Nat) (pre : List α) (x : α) (W : World) (K : Act → World → Prop), I pre W → (∀ Bx W', KeepsFrom w.heap.size W W' → Kp W W' → I pre W' → w.heap.size ≤ Bx → W'.heap[Bx]? = some (.cells (cells x) ty (0, 0)) → K { tmps := tmpsB a.tmps p q (enc1 x) Bx, defers := [] } W') →
      assign.wpIn (Fence.wide.inRound l) m P (Exit.then K (fun _ _ _ => False)) { tmps := a.tmps.setIfInBounds p (enc1 x), defers := [] } W)
    (hbody : ∀ (l m : Nat) (pre : List α) (x : α) (Bx : Nat) (W : World), w.heap.size ≤ l → I pre W → w.heap.size ≤ Bx → W.heap[Bx]? = some (.cells (cells x) ty (0, 0)) → pre.length < N → body.wpIn (Fence.wide.inRound l) m P (ownPostG w.heap.size Kp I Ix (pre ++ [x]) W) { tmps := tmpsB a.tmps p q (enc1 x) Bx, defers := [] } W)
    (hdone : ∀ (D : Nat) (xs : List α) (W : World), w.heap.size ≤ D → S xs → I xs W → W.heap[D]? = some (.deferred (some [])) → Q .normal { a with defers := { target := .collected D, args := #[] } :: a.defers } W)
    (hstop : ∀ (D : Nat) (c : Code) (pre : List α) (W : World), w.heap.size ≤ D → Sp pre → Ix c pre W → W.heap[D]? = some (.deferred (some [])) → c.wpIn Fence.wide n P Q { a with defers := { target := .collected D, args := #[] } :: a.defers } W) :
    (Code.rangeFunc g #[p] assign body).wpIn Fence.wide n P Q a w :=
  range_seqL h1 hg eg hseq hKt hKb hb0 (fun _ => rfl) I Ix hI hIx h0
    (fun x a' W => ∃ Bx, w.heap.size ≤ Bx ∧ W.heap[Bx]? = some (.cells (cells x) ty (0, 0)) ∧ a' = { tmps := tmpsB a.tmps p q (enc1 x) Bx, defers := [] })
    (fun x a' _ X Y row hs hg hr => by
      obtain ⟨Bx, h1, h2, h3⟩ := hs
      refine ⟨Bx, h1, (hg.block Bx (Array.getElem?_eq_some_iff.1 h2).1 (fun e => ?_)).trans h2, h3⟩
      obtain ⟨o, ho, hc⟩ := (hr Bx e.symm).2
      rw [h2] at ho
      cases ho
      cases hc)
    (fun l m pre x W K hi hk => by
      have := hassign l m pre x W K hi (fun Bx W' k1 k2 k3 k4 k5 => hk _ W' k1 k2 k3 ⟨Bx, k4, k5, rfl⟩)
      simpa using this)
    (fun l m pre x a' W hl hi hAx hlt => by
      obtain ⟨Bx, k1, k2, rfl⟩ := hAx
      exact hbody l m pre x Bx W hl hi k1 k2 hlt)
    hdone hstop
end Go.Proofs.Ytoakelgcbbbieaa
