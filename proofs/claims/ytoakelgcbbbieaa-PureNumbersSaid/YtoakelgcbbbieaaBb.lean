/- Which expressions may be pure, how many there are within: the program's shaped and Weight. -/
import Derived.Test.YtoakelgcbbbieaaBa
namespace Go.Proofs.Ytoakelgcbbbieaa
open Go.RowKit Go.Maps Go.Shelf Go.Proofs.YtoakelgcbbbieaaW.PrintWords Go.Proofs.YtoakelgcbbbieaaW.PrintLast Go.Proofs.YtoakelgcbbbieaaW.PrintMore
set_option linter.unusedVariables false
set_option linter.unusedSimpArgs false
set_option maxRecDepth 100000
attribute [local go_sem] Oper.semAt_some

/-- how many kids a kind has that may be pure -/
def manyI (k : Int) : Int :=
  if k = 25 ∨ k = 26 ∨ k = 27 ∨ k = 28 ∨ k = 29 then 0 else if k = 21 then 1 else if k = 16 ∨ k = 17 ∨ k = 18 ∨ k = 19 ∨ k = 20 then 2 else -1
theorem many_f (k : Int) : pure_many.f 1 k = some (manyI k) := by
  unfold pure_many.f pure_many.j0 manyI
  by_cases h25 : k = 25
  · subst h25; rfl
  by_cases h26 : k = 26
  · subst h26; rfl
  by_cases h27 : k = 27
  · subst h27; rfl
  by_cases h29 : k = 29
  · subst h29; rfl
  by_cases h28 : k = 28
  · subst h28; rfl
  by_cases h21 : k = 21
  · subst h21; rfl
  by_cases h16 : k = 16
  · subst h16; rfl
  by_cases h17 : k = 17
  · subst h17; rfl
  by_cases h18 : k = 18
  · subst h18; rfl
  by_cases h19 : k = 19
  · subst h19; rfl
  by_cases h20 : k = 20
  · subst h20; rfl
  simp [h25, h26, h27, h29, h28, h21, h16, h17, h18, h19, h20]
def good1 (x : S58) : Bool := manyI x.f0 == (x.f5.length : Int)
def shapedB (x : S58) : Bool := (flat x).all good1

theorem kpx_set {n₀ b₀ : Nat} (W : World) (b : Nat) (v : Value) (h1 : n₀ ≤ b) (h2 : b < b₀) : KpX n₀ b₀ W (W.setCell ⟨b, 0, none⟩ v) :=
  ⟨(Below.refl _ _).setCell (p := ⟨b, 0, none⟩) h1 _, fun k o hk h _ => (Below.heap_setCell _ _ _ k (by show k ≠ b; omega)).trans h⟩

theorem res69 {tmps : Array Value} {W : World} {b : Nat} {v : Bool} (h : tmps.getD 2 undef = .pointer (some ⟨b, 0, none⟩)) (hc : W.cell? ⟨b, 0, none⟩ = some (.bool v)) : (results Try.f69 tmps).run Try.prog W = .ok (.bool v) W := by
  have h' : tmps[2]?.getD undef = .pointer (some ⟨b, 0, none⟩) := by simpa using h
  simp [results, Try.results69, h', go_sem, hc]

theorem below_drawn (W : World) (n : Nat) : Below W.heap.size W (W.drewN n) := (Drawn0.mk ⟨n, rfl⟩).below
def allG (pre : List EX) : Bool := (pre.map EX.x).all good1
theorem allG_snoc (pre : List EX) (y : EX) : allG (pre ++ [y]) = (allG pre && good1 y.x) := by simp [allG]

set_option maxHeartbeats 2000000 in
theorem shaped_calls {w : World} {x : S58} {A6 : Option Addr} {c6 : Nat} (hC : Kd.C k58 w A6 x.f5.length x.f5) :
    Calls Try.prog 69 #[.agg (eX x A6 c6)] w fun e w' => e = .returned (.bool (shapedB x)) ∧ Below w.heap.size w w' := by
  refine (callsIn_wide (n := 3)).1 ?_
  refine callsIn_of_wp_marks Try.func69 rfl trivial ?_ rfl
  simp only [Try.ntmps69, List.size_toArray, List.length_cons, List.length_nil, Nat.reduceAdd, Nat.reduceSub, Array.replicate_succ, Array.replicate_zero, List.push_toArray, List.append_toArray, List.nil_append, List.cons_append]
  gi_wp2_with (refine ⟨trivial, ?_⟩; gi_at_call 74; refine (callsIn_wide.2 (Exps_calls x A6 c6)).mono ?_; rintro e w1 ⟨rfl, hw1⟩)
  have HB1 : Below w.heap.size w w1 := by rw [hw1]; exact (((Below.refl _ w).alloc (Nat.le_refl _) _).alloc (by simp) _).alloc (by simp; omega) _
  have hs1 : w1.heap.size = w.heap.size + 3 := by rw [hw1]; simp
  have bR : Boxed w1 (w.heap.size + 1) 4 (.bool false) := by
    rw [hw1]
    have := (Boxed.new (w.alloc (.cells (eX x A6 c6) 58)) 4 (.bool false)).alloc (.cells (eX x A6 c6) 58)
    rwa [World.size_alloc] at this
  have bX : w1.heap[w.heap.size + 2]? = some (.cells (eX x A6 c6) 58 (0, 0)) := by
    rw [hw1]
    have := heap_alloc_new ((w.alloc (.cells (eX x A6 c6) 58)).alloc (.cells #[.bool false] 4)) (.cells (eX x A6 c6) 58)
    rwa [World.size_alloc, World.size_alloc] at this
  rw [← hw1]
  clear hw1
  simp only [World.size_alloc, Nat.add_assoc, Nat.reduceAdd]
  refine wpIn_rangeFunc_ownH rfl (by omega) (gf := 89) (lb := #[.pointer (some ⟨w.heap.size + 2, 0, none⟩)]) rfl trivial (enters_of Try.func89 (by kernel_rfl) rfl)
    (exps_stops (n := 2) (w0 := w) (b₀ := w1.heap.size) hC bX HB1 (Nat.le_refl _)) (fun h k => h.trans k) (fun W l o o' hl h hc _ => KpX.put W l o o' (by omega) h hc) (Below.refl _ _) (fun _ => rfl)
    (fun (pre : List EX) W => (Boxed W (w.heap.size + 1) 4 (.bool false) ∧ allG pre = true) ∧ Below w.heap.size w1 W)
    (fun c (pre : List EX) W => (Boxed W (w.heap.size + 1) 4 (.bool false) ∧ c = .ret ∧ allG pre = false) ∧ Below w.heap.size w1 W)
    (OwnFrom.and (OwnFrom.and (Own.from (boxed_own _ _ (fun _ => .bool false)) _) (ownFrom_pure _ _)) (ownFrom_below (by omega) (by omega)))
    (fun c => OwnFrom.and (OwnFrom.and (Own.from (boxed_own _ _ (fun _ => .bool false)) _) (ownFrom_pure _ (fun (pre : List EX) => c = .ret ∧ allG pre = false))) (ownFrom_below (by omega) (by omega)))
    ⟨⟨bR, rfl⟩, Below.refl _ _⟩
    (fun y a' W => ∃ Bx, w.heap.size + 2 < Bx ∧ W.heap[Bx]? = some (.cells (eX y.x y.A6 y.c6) 58 (0, 0)) ∧ a' = { tmps := #[.agg (eX x A6 c6), .pointer (some ⟨w.heap.size, 0, none⟩), .pointer (some ⟨w.heap.size + 1, 0, none⟩), .pointer (some ⟨Bx, 0, none⟩), .agg (eX x A6 c6), .func (.func 89) #[] #[.pointer (some ⟨w.heap.size + 2, 0, none⟩)], .agg (eX y.x y.A6 y.c6), undef, undef, undef, undef, undef, undef, undef], defers := [] })
    (fun y a' _ X Y row hs hg hr => by
      obtain ⟨Bx, h1, h2, h3⟩ := hs
      refine ⟨Bx, h1, (hg.block Bx (Array.getElem?_eq_some_iff.1 h2).1 (fun e => ?_)).trans h2, h3⟩
      obtain ⟨o, ho, hc⟩ := (hr Bx e.symm).2
      rw [h2] at ho
      cases ho
      cases hc)
    ?assign ?body ?done ?stop
  case assign =>
    rintro l pre y W K ⟨⟨hv, hp⟩, hB⟩ hK
    gi_wp2
    have hsz := hB.size
    exact hK _ _ ((KeepsOthers.alloc _ _).from _) (KpX.of_below ((Below.refl _ W).alloc (Nat.le_refl _) _) (by omega)) ⟨⟨hv.alloc _, hp⟩, hB.alloc (by omega) _⟩ ⟨W.heap.size, by omega, heap_alloc_new W _, rfl⟩
  case body =>
    rintro l pre y a' W hl ⟨r, hr0⟩ ⟨⟨hv, hp⟩, hB⟩ ⟨Bx, hBx, bY, rfl⟩ hlt
    have x0 : W.cell? ⟨Bx, 0, none⟩ = some (.int .i64 y.x.f0) := (cell_blk bY 0).trans rfl
    have x6 : W.cell? ⟨Bx, 6, none⟩ = some (.slice y.A6 y.x.f5.length y.c6) := (cell_blk bY 6).trans rfl
    have hsz := hB.size
    have hsz' : w.heap.size ≤ W.heap.size := by omega
    cases hg : good1 y.x
    · have hne : (manyI y.x.f0 != (y.x.f5.length : Int)) = true := by unfold good1 at hg; simpa [bne] using hg
      have HF := Lib.hid (show allG (pre ++ [y]) = false by rw [allG_snoc, hg, Bool.and_false])
      have HV := Lib.hid hv
      have HBW := Lib.hid hB
      have hvc := hv.cell
      have hvf := hv.frozen
      clear hv hB hg hp
      gi_wp2
      gi_region_with (refine ⟨trivial, ?_⟩; gi_at_call 84; refine (CallsIn.inRound l (callsIn_wide.2 (pure_many.calls 1 y.x.f0 _ _ (many_f _)))).mono ?_; rintro e w2 ⟨rfl, ⟨nd, rfl⟩⟩)
      all_goals
        have hd := below_drawn W (1 + nd)
        have hvc2 := cell_later hd hvc
        have HV2 := Lib.hid (show Boxed (W.drewN (1 + nd)) (w.heap.size + 1) 4 (.bool false) from (hd.block _ HV.out.lt).trans HV.out)
        have hvf2 := HV2.out.frozen
        gi_wp2
        have hv2 := HV2.out
        refine ⟨((KeepsOthers.of_grownBy (grown_below hd) (fun j o e => by cases e)).trans (KeepsOthers.setCell _ _ _)).from _, ⟨hv2.set _, rfl, HF.out⟩, ?_⟩
        exact (HBW.out.trans (hd.mono hsz')).setCell (p := ⟨w.heap.size + 1, 0, none⟩) (by show w.heap.size ≤ w.heap.size + 1; omega) _
    · have hne : (manyI y.x.f0 != (y.x.f5.length : Int)) = false := by unfold good1 at hg; simpa [bne] using hg
      have HF := Lib.hid (show allG (pre ++ [y]) = true by rw [allG_snoc, hg, hp]; rfl)
      have HV := Lib.hid hv
      have HBW := Lib.hid hB
      clear hv hB hg hp
      gi_wp2
      gi_region_with (refine ⟨trivial, ?_⟩; gi_at_call 84; refine (CallsIn.inRound l (callsIn_wide.2 (pure_many.calls 1 y.x.f0 _ _ (many_f _)))).mono ?_; rintro e w2 ⟨rfl, ⟨nd, rfl⟩⟩)
      all_goals
        have hd := below_drawn W (1 + nd)
        gi_wp2
        exact ⟨(KeepsOthers.of_grownBy (grown_below hd) (fun j o e => by cases e)).from _, KpX.of_below hd hsz', ⟨(hd.block _ HV.out.lt).trans HV.out, HF.out⟩, HBW.out.trans (hd.mono hsz')⟩
  case done =>
    rintro D ys W hD hys ⟨⟨hv, hp⟩, hB⟩ hK
    have hS : shapedB x = true := by unfold shapedB; rw [← hys]; exact hp
    have hc := hv.cell
    have hf := hv.frozen
    have HV := Lib.hid hv
    have HK := Lib.hid hK
    have HBW := Lib.hid hB
    clear hv hK hB hp hys
    gi_wp2
    have hDne : D ≠ w.heap.size + 1 := by omega
    have hK2 := (Below.heap_setCell W ⟨w.heap.size + 1, 0, none⟩ (.bool true) D hDne).trans HK.out
    refine ⟨by simp, .inl ⟨_, _, rfl, run_takeDeferred hK2, ?_⟩⟩
    refine ⟨_, res69 rfl ((cell_putObj _ (Ne.symm hDne)).trans (HV.out.set (.bool true)).cell), by rw [hS], ?_⟩
    exact below_putObj ((HB1.trans HBW.out).setCell (p := ⟨w.heap.size + 1, 0, none⟩) (by show w.heap.size ≤ w.heap.size + 1; omega) _) (by omega) _
  case stop =>
    rintro D c pre W hD hS ⟨⟨hv, rfl, hp⟩, hB⟩ hK
    have hS : shapedB x = false := by
      unfold shapedB
      obtain ⟨r, hr⟩ := hS
      rw [← hr, List.all_append]
      show ((pre.map EX.x).all good1 && _) = false
      rw [show (pre.map EX.x).all good1 = false from hp]; rfl
    have hc := hv.cell
    have hDne : D ≠ w.heap.size + 1 := by omega
    gi_wp2
    refine ⟨by simp, .inl ⟨_, _, rfl, run_takeDeferred hK, ?_⟩⟩
    refine ⟨_, res69 rfl ((cell_putObj _ (Ne.symm hDne)).trans hc), by rw [hS], ?_⟩
    exact below_putObj (HB1.trans hB) (by omega) _

/-! ### how many there are within -/
def wsum (n : Nat) : Int := (List.range n).foldl (fun s _ => wrap64 (s + 1)) 0
theorem wsum_succ (n : Nat) : wsum (n + 1) = wrap64 (wsum n + 1) := by unfold wsum; rw [List.range_succ, List.foldl_append]; rfl
theorem wsum_small (n : Nat) (h : n ≤ 1000000) : wsum n = n := by
  induction n with
  | zero => rfl
  | succ n ih =>
    rw [wsum_succ, ih (by omega)]
    unfold wrap64
    omega

set_option maxHeartbeats 2000000 in
theorem Weight_calls {w : World} {x : S58} {A6 : Option Addr} {c6 : Nat} (hC : Kd.C k58 w A6 x.f5.length x.f5) :
    Calls Try.prog 46 #[.agg (eX x A6 c6)] w fun e w' => e = .returned (.int .i64 (wsum (flat x).length)) ∧ Below w.heap.size w w' := by
  refine (callsIn_wide (n := 3)).1 ?_
  refine callsIn_of_wp_marks Try.func46 rfl trivial ?_ rfl
  simp only [Try.ntmps46, List.size_toArray, List.length_cons, List.length_nil, Nat.reduceAdd, Nat.reduceSub, Array.replicate_succ, Array.replicate_zero, List.push_toArray, List.append_toArray, List.nil_append, List.cons_append]
  gi_wp2_with (refine ⟨trivial, ?_⟩; gi_at_call 74; refine (callsIn_wide.2 (Exps_calls x A6 c6)).mono ?_; rintro e w1 ⟨rfl, hw1⟩)
  have HB1 : Below w.heap.size w w1 := by rw [hw1]; exact (((Below.refl _ w).alloc (Nat.le_refl _) _).alloc (by simp) _).alloc (by simp; omega) _
  have hs1 : w1.heap.size = w.heap.size + 3 := by rw [hw1]; simp
  have bR : Boxed w1 (w.heap.size + 1) 3 (.int .i64 0) := by
    rw [hw1]
    have := (Boxed.new (w.alloc (.cells (eX x A6 c6) 58)) 3 (.int .i64 0)).alloc (.cells (eX x A6 c6) 58)
    rwa [World.size_alloc] at this
  have bX : w1.heap[w.heap.size + 2]? = some (.cells (eX x A6 c6) 58 (0, 0)) := by
    rw [hw1]
    have := heap_alloc_new ((w.alloc (.cells (eX x A6 c6) 58)).alloc (.cells #[.int .i64 0] 3)) (.cells (eX x A6 c6) 58)
    rwa [World.size_alloc, World.size_alloc] at this
  rw [← hw1]
  clear hw1
  simp only [World.size_alloc, Nat.add_assoc, Nat.reduceAdd]
  refine wpIn_rangeFunc_ownF rfl (by omega) (gf := 89) (lb := #[.pointer (some ⟨w.heap.size + 2, 0, none⟩)]) rfl trivial (enters_of Try.func89 (by kernel_rfl) rfl)
    (exps_stops (n := 2) (w0 := w) (b₀ := w1.heap.size) hC bX HB1 (Nat.le_refl _)) (fun h k => h.trans k) (fun W l o o' hl h hc _ => KpX.put W l o o' (by omega) h hc) (Below.refl _ _) (fun _ => rfl)
    (fun (pre : List EX) W => Boxed W (w.heap.size + 1) 3 (.int .i64 (wsum pre.length)) ∧ Below w.heap.size w1 W)
    (fun _ _ _ => False)
    (OwnFrom.and (Own.from (boxed_own _ _ (fun (pre : List EX) => .int .i64 (wsum pre.length))) _) (ownFrom_below (by omega) (by omega)))
    (fun _ _ _ _ _ hs _ _ => hs)
    ⟨bR, Below.refl _ _⟩
    (fun y => { tmps := #[.agg (eX x A6 c6), .pointer (some ⟨w.heap.size, 0, none⟩), .int .i64 0, .pointer (some ⟨w.heap.size + 1, 0, none⟩), .agg (eX x A6 c6), .func (.func 89) #[] #[.pointer (some ⟨w.heap.size + 2, 0, none⟩)], .agg (eX y.x y.A6 y.c6), undef, undef, undef], defers := [] })
    ?assign ?body ?done ?stop
  case assign =>
    intro l y W K hK
    gi_wp2
    simpa using hK
  case body =>
    rintro l pre y W ⟨hv, hB⟩ hlt
    have hsz := hB.size
    have hvc := hv.cell
    have hvf := hv.frozen
    have HV := Lib.hid hv
    have HBW := Lib.hid hB
    have HF := Lib.hid (show wsum (pre ++ [y]).length = wrap64 (wsum pre.length + 1) by rw [List.length_append]; exact wsum_succ _)
    obtain ⟨s, hs⟩ : ∃ s, s = wsum pre.length := ⟨_, rfl⟩
    rw [← hs] at hvc HV HF
    clear hv hB hs
    gi_wp2
    refine ⟨KeepsOthers.setCell _ _ _, kpx_set _ _ _ (by omega) (by omega), ?_, ?_⟩
    · rw [HF.out]; exact HV.out.set _
    · exact HBW.out.setCell (p := ⟨w.heap.size + 1, 0, none⟩) (by show w.heap.size ≤ w.heap.size + 1; omega) _
  case done =>
    rintro D ys W hD hys ⟨hv, hB⟩ hK
    have hvc := hv.cell
    have hl : ys.length = (flat x).length := by rw [← hys, List.length_map]
    rw [hl] at hvc
    have HK := Lib.hid hK
    have HBW := Lib.hid hB
    clear hv hB hK
    gi_wp2
    refine ⟨by simp, .inl ⟨_, _, rfl, run_takeDeferred HK.out, ?_⟩⟩
    refine ⟨_, results_tmp rfl _ _ _, rfl, ?_⟩
    exact below_putObj (HB1.trans HBW.out) (by omega) _
  case stop =>
    rintro D c pre W hD _ h _
    exact h.elim
end Go.Proofs.Ytoakelgcbbbieaa
