/- The names that an expression reads, as an iterator: the program's, walked for any loop's body. -/
import Derived.Test.YtoakelgcbbbieaaCb
namespace Go.Proofs.Ytoakelgcbbbieaa
open Go.RowKit Go.Maps Go.Shelf Go.Proofs.YtoakelgcbbbieaaW.PrintWords Go.Proofs.YtoakelgcbbbieaaW.PrintLast Go.Proofs.YtoakelgcbbbieaaW.PrintMore
set_option linter.unusedVariables false
set_option linter.unusedSimpArgs false
set_option maxRecDepth 100000
attribute [local go_sem] Oper.semAt_some

/-- a name that is read -/
structure NM where
  s : S55
  h : s.f0.size ≤ maxLen
abbrev encNM (a : NM) : Array Value := #[.agg #[.string a.s.f0, .int .i64 a.s.f1]]
def nmOf (y : EN) : List NM := if y.x.f0 = 28 then [⟨y.x.f1, y.hn⟩] else []
def namesN (pre : List EN) : List NM := pre.flatMap nmOf
def nm1 (y : S58) : List S55 := if y.f0 = 28 then [y.f1] else []
def readsS (x : S58) : List S55 := (flat x).flatMap nm1
theorem namesN_snoc (pre : List EN) (y : EN) : namesN (pre ++ [y]) = namesN pre ++ nmOf y := by simp [namesN]
theorem namesN_s (pre : List EN) : (namesN pre).map NM.s = (pre.map EN.x).flatMap nm1 := by
  induction pre with
  | nil => rfl
  | cons y pre ih =>
    show (nmOf y ++ namesN pre).map NM.s = nm1 y.x ++ (pre.map EN.x).flatMap nm1
    rw [List.map_append, ih]
    congr 1
    unfold nmOf nm1
    split <;> rfl
theorem namesN_len (pre : List EN) : (namesN pre).length ≤ pre.length := by
  induction pre with
  | nil => simp [namesN]
  | cons y pre ih =>
    show (nmOf y ++ namesN pre).length ≤ _
    have : (nmOf y).length ≤ 1 := by unfold nmOf; split <;> simp
    rw [List.length_append, List.length_cons]; omega

theorem Reads_calls {w : World} (x : S58) (A6 : Option Addr) (c6 : Nat) :
    Calls Try.prog 43 #[.agg (eX x A6 c6)] w fun e w' => e = .returned (.func (.func 73) #[] #[.pointer (some ⟨w.heap.size, 0, none⟩)]) ∧ w' = w.alloc (.cells (eX x A6 c6) 58) := by
  go_enter Try.func43, Try.ntmps43
  go_wp2
  go_ret
  exact ⟨rfl, rfl⟩

theorem OwnFrom.le {β : Type} {B B' : Nat} {I : β → World → Prop} (h : OwnFrom B I) (hb : B ≤ B') : OwnFrom B' I := fun s W W' row hs hg hr => h s W W' row hs hg (fun r e => ⟨by have := (hr r e).1; omega, (hr r e).2⟩)

set_option maxHeartbeats 4000000 in
theorem reads_in (n : Nat) (l b₀ Bx : Nat) (w0 : World) (x : S58) (A6 : Option Addr) (c6 : Nat) (J Jx : List NM → World → Prop) (W : World) (hJ : OwnFrom W.heap.size J) (hJx : OwnFrom W.heap.size Jx) (hG : GN x) (hC : Kd.C k58 w0 A6 x.f5.length x.f5) (hb : W.heap[Bx]? = some (.cells (eX x A6 c6) 58 (0, 0)))
    (hY : ∀ m pre x1 W1, J pre W1 → pre.length < (flat x).length → YieldAt Fence.wide m Try.prog l (encNM x1) W1 fun e W' =>
      (e = .returned (.bool true) ∧ J (pre ++ [x1]) W' ∧ KpY w0.heap.size b₀ W1 W') ∨ (e = .returned (.bool false) ∧ Jx (pre ++ [x1]) W' ∧ KeepsFrom b₀ W1 W')) (hW : Below w0.heap.size w0 W) (hb0 : b₀ ≤ W.heap.size) (h0 : J [] W) :
    CallsIn Fence.wide n Try.prog 73 #[.func (.yield l) #[] #[], .pointer (some ⟨Bx, 0, none⟩)] W fun e W' => (∃ v, e = .returned v) ∧
      ((∃ ys, ys.map NM.s = readsS x ∧ J ys W') ∨ (∃ q, q.map NM.s <+: readsS x ∧ Jx q W')) := by
  have hdd : ∀ k : Nat, (Fence.wide.depth.isSome = true → 1 ≤ k) := fun k h => by cases h
  have c0 : W.cell? ⟨Bx, 0, none⟩ = some (.int .i64 x.f0) := (cell_blk hb 0).trans rfl
  have c1 : W.cell? ⟨Bx, 1, none⟩ = some (.string x.f1.f0) := (cell_blk hb 1).trans rfl
  have c2 : W.cell? ⟨Bx, 2, none⟩ = some (.int .i64 x.f1.f1) := (cell_blk hb 2).trans rfl
  have c3 : W.cell? ⟨Bx, 3, none⟩ = some (.int .i64 x.f2) := (cell_blk hb 3).trans rfl
  have c4 : W.cell? ⟨Bx, 4, none⟩ = some (.int .i64 x.f3) := (cell_blk hb 4).trans rfl
  have c5 : W.cell? ⟨Bx, 5, none⟩ = some (.int .i64 x.f4) := (cell_blk hb 5).trans rfl
  have c6' : W.cell? ⟨Bx, 6, none⟩ = some (.slice A6 x.f5.length c6) := (cell_blk hb 6).trans rfl
  have hbl := (Array.getElem?_eq_some_iff.1 hb).1
  have HY := Lib.hid hY
  have HJ := Lib.hid hJ
  have HJX := Lib.hid hJx
  clear hY hJ hJx hb
  refine (callsIn_wide (n := n)).2 ((callsIn_wide (n := 5)).1 ?_)
  refine callsIn_of_wp_marks Try.func73 rfl trivial ?_ rfl
  simp only [Try.ntmps73, List.size_toArray, List.length_cons, List.length_nil, Nat.reduceAdd, Nat.reduceSub, Array.replicate_succ, Array.replicate_zero, List.push_toArray, List.append_toArray, List.nil_append, List.cons_append]
  gi_wp2_with (refine ⟨trivial, ?_⟩; gi_at_call 74; refine (callsIn_wide.2 (Exps_calls x A6 c6)).mono ?_; rintro e w1 ⟨rfl, hw1⟩)
  have HB1 : Below W.heap.size W w1 := by rw [hw1]; exact ((Below.refl _ W).alloc (Nat.le_refl _) _).alloc (by simp) _
  have hs1 : w1.heap.size = W.heap.size + 2 := by rw [hw1]; simp
  have bY : Boxed w1 W.heap.size 161 (.func (.yield l) #[] #[]) := by
    rw [hw1]
    exact (Boxed.new W 161 (.func (.yield l) #[] #[])).alloc _
  have bX : w1.heap[W.heap.size + 1]? = some (.cells (eX x A6 c6) 58 (0, 0)) := by
    rw [hw1]
    have := heap_alloc_new (W.alloc (.cells #[.func (.yield l) #[] #[]] 161)) (.cells (eX x A6 c6) 58)
    rwa [World.size_alloc] at this
  have hJ1 : J [] w1 := HJ.out _ _ _ none h0 (grown_below HB1) (fun r e => by cases e)
  rw [← hw1]
  clear hw1 c0 c1 c2 c3 c4 c5 c6' h0
  try simp only [World.size_alloc, Nat.add_assoc, Nat.reduceAdd]
  have hW1 : Below w0.heap.size w0 w1 := hW.trans (HB1.mono hW.size)
  refine wpIn_rangeFunc_ownH rfl (by omega) (gf := 89) (lb := #[.pointer (some ⟨W.heap.size + 1, 0, none⟩)]) rfl trivial (enters_of Try.func89 (by kernel_rfl) rfl)
    (expsN_stops (n := 4) (w0 := w0) (b₀ := w1.heap.size) hG hC bX hW1 (Nat.le_refl _)) (fun h k => h.trans k) (fun V l o o' hl h hc _ => KpX.put V l o o' (by have := hW1.size; omega) h hc) (Below.refl _ _) (fun _ => rfl)
    (fun (pre : List EN) V => J (namesN pre) V ∧ Boxed V W.heap.size 161 (.func (.yield l) #[] #[]) ∧ Below w0.heap.size w0 V ∧ w1.heap.size ≤ V.heap.size)
    (fun c (pre : List EN) V => Jx (namesN pre) V ∧ c = .ret)
    (OwnFrom.and (fun s A B row hs hg hr => OwnFrom.le HJ.out (by omega) (namesN s) A B row hs hg hr) (OwnFrom.and (Own.from (boxed_own _ _ (fun _ => .func (.yield l) #[] #[])) _) (OwnFrom.and (ownFrom_below (Nat.le_refl _) (by have := hW1.size; omega)) (fun _ A B row hs hg _ => Nat.le_trans hs hg.size))))
    (fun c => OwnFrom.and (fun s A B row hs hg hr => OwnFrom.le HJX.out (by omega) (namesN s) A B row hs hg hr) (ownFrom_pure _ (fun _ => c = .ret)))
    ⟨hJ1, bY, hW1, Nat.le_refl _⟩
    (fun y a' V => ∃ By, w1.heap.size ≤ By ∧ V.heap[By]? = some (.cells (eX y.x y.A6 y.c6) 58 (0, 0)) ∧ a' = { tmps := #[.func (.yield l) #[] #[], .pointer (some ⟨Bx, 0, none⟩), .pointer (some ⟨W.heap.size, 0, none⟩), .pointer (some ⟨By, 0, none⟩), .agg (eX x A6 c6), .func (.func 89) #[] #[.pointer (some ⟨W.heap.size + 1, 0, none⟩)], .agg (eX y.x y.A6 y.c6), undef, undef, undef, undef, undef, undef, undef, undef, undef, undef], defers := [] })
    (fun y a' _ X Y row hs hg hr => by
      obtain ⟨By, h1, h2, h3⟩ := hs
      refine ⟨By, h1, (hg.block By (Array.getElem?_eq_some_iff.1 h2).1 (fun e => ?_)).trans h2, h3⟩
      obtain ⟨o, ho, hc⟩ := (hr By e.symm).2
      rw [h2] at ho
      cases ho
      cases hc)
    ?assign ?body ?done ?stop
  case assign =>
    rintro l2 pre y V K ⟨hj, hv, hB, hsz⟩ hK
    gi_wp2
    have hb2 : Below V.heap.size V (V.alloc (.cells (eX y.x y.A6 y.c6) 58)) := (Below.refl _ V).alloc (Nat.le_refl _) _
    exact hK _ _ ((KeepsOthers.alloc _ _).from _) (KpX.of_below hb2 hB.size) ⟨HJ.out _ _ _ none hj (grown_below hb2) (fun r e => by cases e), hv.alloc _, hB.trans (hb2.mono hB.size), Nat.le_trans hsz hb2.size⟩ ⟨V.heap.size, hsz, heap_alloc_new V _, rfl⟩
  case body =>
    rintro l2 pre y a' V hl ⟨r, hr0⟩ ⟨hj, hv, hB, hsz⟩ ⟨By, hBy, bE, rfl⟩ hlt
    have x0 : V.cell? ⟨By, 0, none⟩ = some (.int .i64 y.x.f0) := (cell_blk bE 0).trans rfl
    have x1 : V.cell? ⟨By, 1, none⟩ = some (.string y.x.f1.f0) := (cell_blk bE 1).trans rfl
    have x2 : V.cell? ⟨By, 2, none⟩ = some (.int .i64 y.x.f1.f1) := (cell_blk bE 2).trans rfl
    have hvc := hv.cell
    by_cases h28 : y.x.f0 = 28
    · have HF := Lib.hid (show namesN (pre ++ [y]) = namesN pre ++ [⟨y.x.f1, y.hn⟩] by rw [namesN_snoc]; unfold nmOf; rw [if_pos h28])
      have hY1 := HY.out (5 - 1 - 1 - 1) (namesN pre) ⟨y.x.f1, y.hn⟩ V hj (by have := namesN_len pre; omega)
      rw [h28] at x0
      obtain ⟨fn, tmps, assign, body, hy, hR⟩ := hY1
      dsimp only [encNM] at hy
      have HV := Lib.hid hv
      have HBV := Lib.hid hB
      clear hj hv hB
      have hR2 : RoundIn (Fence.wide.inRound l2) 2 Try.prog l fn tmps assign body V _ := hR
      clear hR
      gi_wp2_with fail
      refine hR2.mono ?_
      rintro e W3 (⟨rfl, hJ3, hk3⟩ | ⟨rfl, hx3, hk3⟩)
      · gi_wp2
        refine ⟨hk3.from (by omega), hk3.x (by omega), by rw [HF.out]; exact hJ3, ?_, HBV.out.trans hk3.bel, Nat.le_trans hsz hk3.bel.size⟩
        exact (hk3.keep _ (by omega) (by omega)).trans HV.out
      · gi_wp2
        exact ⟨keepsFrom_up hk3 (by omega), by rw [HF.out]; exact hx3, rfl⟩
    · have h28b : (y.x.f0 == 28) = false := by simpa using h28
      have HF := Lib.hid (show namesN (pre ++ [y]) = namesN pre by rw [namesN_snoc]; unfold nmOf; rw [if_neg h28, List.append_nil])
      have HI := Lib.hid (show _ ∧ _ ∧ _ ∧ _ from ⟨hj, hv, hB, hsz⟩)
      clear hj hv hB
      gi_wp2
      all_goals first
        | (rename_i hu1 hu2; cases hu1; done)
        | (refine ⟨fun _ h => (by cases h), ?_⟩
           gi_wp2
           obtain ⟨hj, hv, hB, hsz⟩ := HI.out
           exact ⟨KeepsFrom.refl _ _, KpX.refl _ _ _, by rw [HF.out]; exact hj, hv, hB, hsz⟩)
  case done =>
    rintro D ys V hD hys ⟨hj, hv, hB, hsz⟩ hK
    gi_wp2
    refine ⟨by simp, .inl ⟨_, _, rfl, run_takeDeferred hK, ?_⟩⟩
    refine ⟨_, results_none rfl _ _ _, ⟨_, rfl⟩, .inl ⟨namesN ys, by rw [namesN_s, hys]; rfl, ?_⟩⟩
    exact HJ.out.putObj _ hj (by omega) hK rfl
  case stop =>
    rintro D c pre V hD hS ⟨hj, rfl⟩ hK
    gi_wp2
    refine ⟨by simp, .inl ⟨_, _, rfl, run_takeDeferred hK, ?_⟩⟩
    refine ⟨_, results_none rfl _ _ _, ⟨_, rfl⟩, .inr ⟨namesN pre, ?_, ?_⟩⟩
    · rw [namesN_s]
      obtain ⟨t, ht⟩ := hS
      exact ⟨t.flatMap nm1, by unfold readsS; rw [← ht, List.flatMap_append]⟩
    · exact HJX.out.putObj _ hj (by omega) hK rfl

/-- the iterator keeps its word: all names in order, or the first some -/
theorem reads_seqL {n : Nat} {w w0 : World} {Bx : Nat} {x : S58} {A6 : Option Addr} {c6 : Nat} (hG : GN x) (hC : Kd.C k58 w0 A6 x.f5.length x.f5) (hb : w.heap[Bx]? = some (.cells (eX x A6 c6) 58 (0, 0))) (hW : Below w0.heap.size w0 w) :
    SeqL (w.heap.size + 2) n Try.prog 73 #[.pointer (some ⟨Bx, 0, none⟩)] encNM (KpY w0.heap.size (w.heap.size + 2)) (fun ys => ys.map NM.s = readsS x) (fun pre => pre.map NM.s <+: readsS x) (flat x).length w := fun l J Jx W hW1 hs hJ hJx hY h0 => by
  have hl := (Array.getElem?_eq_some_iff.1 hb).1
  exact reads_in n l (w.heap.size + 2) Bx w0 x A6 c6 J Jx W hJ hJx hG hC ((hW1.block Bx hl).trans hb) hY (hW.trans (hW1.mono hW.size)) hs h0
end Go.Proofs.Ytoakelgcbbbieaa
