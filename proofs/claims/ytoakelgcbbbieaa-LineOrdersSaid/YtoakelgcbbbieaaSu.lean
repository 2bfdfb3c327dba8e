/- What the program answers at a nil table, walked; below is an order where no class is circular. -/
import Derived.Test.YtoakelgcbbbieaaSl
import Derived.Test.YtoakelgcbbbieaaXo
namespace Go.Proofs.Ytoakelgcbbbieaa
open Go.RowKit Go.Maps Go.Shelf Go.Proofs.YtoakelgcbbbieaaW.PrintWords Go.Proofs.YtoakelgcbbbieaaW.PrintLast Go.Proofs.YtoakelgcbbbieaaW.PrintMore
set_option linter.unusedVariables false
set_option linter.unusedSimpArgs false
set_option maxRecDepth 100000
attribute [local go_sem] Oper.semAt_some

/-! ### the law -/
theorem lineGo_back (xs : List S124) (a0 : Nat) : ∀ (f : Nat) (acc : List Nat) (cur : Option Nat), a0 ∈ acc → (∀ x ∈ acc, sup xs (x : Int) = some a0 → acc.getLast? = some x ∧ cur = some a0) →
    ∀ x ∈ lineGo xs f acc cur, sup xs (x : Int) = some a0 → (lineGo xs f acc cur).getLast? = some x
  | 0, acc, cur, h0, h => fun x hx hs => (h x hx hs).1
  | f + 1, acc, none, h0, h => fun x hx hs => (h x hx hs).1
  | f + 1, acc, some i, h0, h => by
    unfold lineGo
    split
    · exact fun x hx hs => (h x hx hs).1
    · rename_i hi
      refine lineGo_back xs a0 f (acc ++ [i]) (sup xs i) (List.mem_append_left _ h0) fun x hx hs => ?_
      rcases List.mem_append.1 hx with hx | hx
      · have := (h x hx hs).2
        injection this with this
        exact absurd (by rw [this]; exact h0) hi
      · rw [List.mem_singleton.1 hx] at hs ⊢
        exact ⟨List.getLast?_concat, hs⟩

theorem lineOf_back {xs : List S124} {a x : Nat} (hx : x ∈ lineOf xs a) (hs : sup xs (x : Int) = some a) : circB xs a = true := by
  have hl : (lineOf xs a).getLast? = some x := by
    unfold lineOf at hx ⊢
    split at hx
    · rename_i hin
      rw [if_pos hin]
      have e : lineGo xs (xs.length + 1) [] (some (a : Int).toNat) = lineGo xs xs.length [a] (sup xs a) := by
        rw [Int.toNat_natCast]
        show (if a ∈ [] then [] else lineGo xs xs.length ([] ++ [a]) (sup xs a)) = _
        rw [if_neg (by simp)]
        rfl
      rw [e] at hx ⊢
      refine lineGo_back xs a _ [a] (sup xs a) (by simp) (fun y hy hys => ?_) x hx hs
      rw [List.mem_singleton.1 hy] at hys ⊢
      exact ⟨rfl, hys⟩
    · simp at hx
  unfold circB
  rw [hl]
  simp only [hs]
  simp

theorem belowB_antisymm {xs : List S124} {a b : Nat} (hc : circB xs a = false) (h1 : belowB xs a b = true) (h2 : belowB xs b a = true) : a = b := by
  rw [belowB_iff] at h1 h2
  refine Classical.byContradiction fun hne => ?_
  have hS : ∀ x, (x ∈ lineOf xs a ∧ x ≠ a) → ∀ y, sup xs (x : Int) = some y → (y ∈ lineOf xs a ∧ y ≠ a) := by
    rintro x ⟨hx, _⟩ y hy
    refine ⟨lineOf_closed xs a x hx y hy, fun e => ?_⟩
    rw [e] at hy
    rw [lineOf_back hx hy] at hc
    cases hc
  have hl := h2
  unfold lineOf at hl
  split at hl
  · have := lineGo_within xs (fun x => x ∈ lineOf xs a ∧ x ≠ a) hS _ [] _ (by simp) (fun c hc => by
      injection hc with hc
      rw [← hc, Int.toNat_natCast]
      exact ⟨h1, fun e => hne e.symm⟩) a hl
    exact this.2 rfl
  · simp at hl

/-! ### a nil table -/
theorem Super_nil (w : World) (i : Int) : Calls Try.prog 47 #[.pointer none, .int .i64 i] w fun e w' => e = .returned (.tuple #[.int .i64 0, .bool false]) ∧ Below w.heap.size w w' := by
  go_enter Try.func47, Try.ntmps47
  go_wp2_with (go_at_call 62; refine (at_nil i w).mono ?_; rintro e w1 ⟨rfl, hb⟩)
  go_ret2
  exact ⟨rfl, hb.alloc hb.size _⟩

theorem Line_nil (w : World) (i : Int) : Calls Try.prog 50 #[.pointer none, .int .i64 i] w fun e w' => e = .returned (.slice none 0 0) ∧ Below w.heap.size w w' := by
  go_enter Try.func50, Try.ntmps50
  go_wp2_with (go_at_call 62; refine (at_nil i w).mono ?_; rintro e w1 ⟨rfl, hb⟩)
  go_loopw [1, 5, 7] (fun v1 v5 v7 wr => v5 = .slice none 0 0 ∧ v7 = .bool false ∧ Hid (Below w.heap.size w wr)) (fun _ _ _ _ => 0)
  case atStart => first | exact ⟨rfl, rfl, hb⟩ | exact ⟨rfl, rfl, hb.alloc hb.size _⟩
  case round =>
    obtain ⟨rfl, rfl, hB⟩ := hrel
    go_wp2
    go_ret
    exact ⟨rfl, hB.out⟩

theorem Meet_nil (w : World) (i k : Int) : Calls Try.prog 28 #[.pointer none, .int .i64 i, .int .i64 k] w fun e w' => e = .returned (.tuple #[.int .i64 0, .bool false]) ∧ Below w.heap.size w w' := by
  go_enter Try.func28, Try.ntmps28
  go_wp2_with fail
  refine (Line_nil w k).mono ?_
  rintro e w1 ⟨rfl, hb1⟩
  go_wp2_with fail
  refine (Line_nil w1 i).mono ?_
  rintro e w2 ⟨rfl, hb2⟩
  have HB := Lib.hid (hb1.trans (hb2.mono hb1.size))
  clear hb1 hb2
  go_wp2
  go_loopw [18] (fun v18 wr => v18 = .int .i64 0 ∧ w2 = wr) (fun _ _ => 0)
  case atStart => exact ⟨rfl, rfl⟩
  case round =>
    obtain ⟨rfl, rfl⟩ := hrel
    go_wp2
    go_ret2
    exact ⟨rfl, HB.out⟩

theorem Below_nil (w : World) (i k : Int) : Calls Try.prog 26 #[.pointer none, .int .i64 i, .int .i64 k] w fun e w' => e = .returned (.bool false) ∧ Below w.heap.size w w' := by
  go_enter Try.func26, Try.ntmps26
  go_wp2_with fail
  refine (Line_nil w i).mono ?_
  rintro e w1 ⟨rfl, hb1⟩
  have HB := Lib.hid hb1
  clear hb1
  go_wp2_with (go_at_call 64; refine (Contains_calls (l := []) (Kd.C_nil _ _) k).mono ?_; rintro e w3 ⟨rfl, rfl⟩)
  go_ret
  exact ⟨rfl, HB.out⟩

theorem Circular_nil (w : World) (i : Int) : Calls Try.prog 52 #[.pointer none, .int .i64 i] w fun e w' => e = .returned (.bool false) ∧ Below w.heap.size w w' := by
  go_enter Try.func52, Try.ntmps52
  go_wp2_with fail
  refine (Line_nil w i).mono ?_
  rintro e w1 ⟨rfl, hb1⟩
  have HB := Lib.hid hb1
  clear hb1
  go_wp2
  go_ret
  exact ⟨rfl, HB.out⟩

/-- the iterators of a nil table yield nothing -/
theorem under_nil_stops {n : Nat} (hn : 1 ≤ n) {w : World} {bt bk : Nat} {Kp : World → World → Prop} (ht : w.cell? ⟨bt, 0, none⟩ = some (.pointer none)) (hbt : bt < w.heap.size) :
    SeqStopsK Fence.wide n Try.prog 66 #[.pointer (some ⟨bt, 0, none⟩), .pointer (some ⟨bk, 0, none⟩)] (fun x : Int => #[Value.int .i64 x]) Kp (fun ys => ys = []) (fun pre => False) 0 w := fun l J Jx W hW hJ _ hY h0 => by
  have hct := (hW.cell (p := ⟨bt, 0, none⟩) hbt).trans ht
  refine callsIn_of_wp Try.func66 rfl trivial ?_ rfl
  simp only [Try.ntmps66, List.size_toArray, List.length_cons, List.length_nil, Nat.reduceAdd, Nat.reduceSub, Array.replicate_succ, Array.replicate_zero, List.push_toArray, List.append_toArray, List.nil_append, List.cons_append]
  gi_wp2_with (refine ⟨trivial, ?_⟩; gi_at_call 58; refine (callsIn_wide.2 (Len_nil_calls W)).mono ?_; rintro e w1 ⟨rfl, rfl⟩)
  gi_loopw [7] (fun i wr => i = .int .i64 0 ∧ W = wr) (fun i _ => 0)
  case atStart => exact ⟨rfl, rfl⟩
  case round =>
    obtain ⟨rfl, rfl⟩ := hrel
    gi_wp2
    go_end0
    exact ⟨⟨_, rfl⟩, .inl ⟨_, rfl, h0⟩⟩

theorem all_nil_stops {n : Nat} (hn : 1 ≤ n) {w : World} {bt : Nat} {Kp : World → World → Prop} (ht : w.cell? ⟨bt, 0, none⟩ = some (.pointer none)) (hbt : bt < w.heap.size) :
    SeqStopsK Fence.wide n Try.prog 78 #[.pointer (some ⟨bt, 0, none⟩)] encA Kp (fun ys => ys = []) (fun pre => False) 0 w := fun l J Jx W hW hJ _ hY h0 => by
  have hct := (hW.cell (p := ⟨bt, 0, none⟩) hbt).trans ht
  refine callsIn_of_wp Try.func78 rfl trivial ?_ rfl
  simp only [Try.ntmps78, List.size_toArray, List.length_cons, List.length_nil, Nat.reduceAdd, Nat.reduceSub, Array.replicate_succ, Array.replicate_zero, List.push_toArray, List.append_toArray, List.nil_append, List.cons_append]
  gi_wp2_with (refine ⟨trivial, ?_⟩; gi_at_call 58; refine (callsIn_wide.2 (Len_nil_calls W)).mono ?_; rintro e w1 ⟨rfl, rfl⟩)
  gi_loopw [6] (fun i wr => i = .int .i64 0 ∧ W = wr) (fun i _ => 0)
  case atStart => exact ⟨rfl, rfl⟩
  case round =>
    obtain ⟨rfl, rfl⟩ := hrel
    gi_wp2
    go_end0
    exact ⟨⟨_, rfl⟩, .inl ⟨_, rfl, h0⟩⟩

set_option maxHeartbeats 1000000 in
theorem Faults_nil (w : World) : Calls Try.prog 55 #[.pointer none] w fun e w' => ∃ A' c', e = .returned (.slice A' 0 c') ∧ Below w.heap.size w w' := by
  refine (callsIn_wide (n := 3)).1 ?_
  refine callsIn_of_wp_marks Try.func55 rfl trivial ?_ rfl
  simp only [Try.ntmps55, List.size_toArray, List.length_cons, List.length_nil, Nat.reduceAdd, Nat.reduceSub, Array.replicate_succ, Array.replicate_zero, List.push_toArray, List.append_toArray, List.nil_append, List.cons_append]
  gi_wp2_with (refine ⟨trivial, ?_⟩; gi_at_call 57; refine (callsIn_wide.2 (All_tbl_calls _)).mono ?_; rintro e w1 ⟨rfl, hw1⟩)
  have HB1 : Below w.heap.size w w1 := by rw [hw1]; exact (((Below.refl _ w).alloc (Nat.le_refl _) _).alloc (by simp) _).alloc (by simp; omega) _
  have hs1 : w1.heap.size = w.heap.size + 3 := by rw [hw1]; simp
  have bO : Boxed w1 (w.heap.size + 1) 107 (.slice none 0 0) := by
    rw [hw1]
    have := (Boxed.new (w.alloc (.cells #[.pointer none] 25)) 107 (.slice none 0 0)).alloc (.cells #[.pointer none] 25)
    rwa [World.size_alloc] at this
  have bA : Boxed w1 (w.heap.size + 2) 25 (.pointer none) := by
    rw [hw1]
    have := Boxed.new ((w.alloc (.cells #[.pointer none] 25)).alloc (.cells #[.slice none 0 0] 107)) 25 (.pointer none)
    rwa [World.size_alloc, World.size_alloc] at this
  rw [← hw1]
  clear hw1
  simp only [World.size_alloc, Nat.add_assoc, Nat.reduceAdd]
  refine wpIn_rangeFunc_ownH rfl (by omega) (gf := 78) (lb := #[.pointer (some ⟨w.heap.size + 2, 0, none⟩)]) rfl trivial (enters_of Try.func78 (by kernel_rfl) rfl)
    (all_nil_stops (n := 2) (by omega) (Kp := Below w.heap.size) bA.cell bA.lt) (fun h k => h.trans k) (fun W l o o' hl _ _ _ => below_putObj (Below.refl _ _) (by omega) _) (Below.refl _ _) (fun _ => rfl)
    (fun pre W => Boxed W (w.heap.size + 1) 107 (.slice none 0 0) ∧ Below w.heap.size w1 W)
    (fun _ _ _ => False)
    (OwnFrom.and (Own.from (boxed_own _ _ (fun _ => .slice none 0 0)) _) (ownFrom_below (by omega) (by omega)))
    (fun _ _ _ _ _ hs _ _ => hs)
    ⟨bO, Below.refl _ _⟩
    (fun x a' W => True)
    (fun x a' _ X Y row hs hg hr => trivial)
    ?assign ?body ?done ?stop
  case assign =>
    rintro l pre x W K ⟨h2, hB⟩ hK
    gi_wp2
    have hsz := hB.size
    exact hK _ _ ((KeepsOthers.alloc _ _).from _) ((Below.refl _ W).alloc (by omega) _) ⟨h2.alloc _, hB.alloc (by omega) _⟩ trivial
  case body =>
    rintro l pre x a' W hl _ _ _ hlt
    exact absurd hlt (Nat.not_lt_zero _)
  case done =>
    rintro D ys W hD hys ⟨hv, hB⟩ hK
    have hc := hv.cell
    have HB := Lib.hid hB
    have HK := Lib.hid hK
    clear hv hB hK
    gi_wp2_with (refine ⟨trivial, ?_⟩; gi_at_call 76; refine (callsIn_wide.2 (Sorted_calls (fs := []) (Kd.C_nil _ _) (by simp))).mono ?_; rintro e w5 ⟨A', c', rfl, hC', hB'⟩)
    have hDl := (Array.getElem?_eq_some_iff.1 HK.out).1
    have hK5 := (hB'.block D hDl).trans HK.out
    refine ⟨by simp, .inl ⟨_, _, rfl, run_takeDeferred hK5, ?_⟩⟩
    refine ⟨_, results_tmp rfl _ _ _, A', c', rfl, ?_⟩
    have hs5 := HB.out.size
    exact below_putObj (HB1.trans (HB.out.trans (hB'.mono (by omega)))) (by omega) _
  case stop =>
    rintro D c pre W hD _ h _
    exact h.elim
end Go.Proofs.Ytoakelgcbbbieaa
