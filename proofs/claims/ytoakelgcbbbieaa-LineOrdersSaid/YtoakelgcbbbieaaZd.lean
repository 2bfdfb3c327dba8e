/- All classes below one: the program's iterator, walked for any loop's body. -/
import Derived.Test.YtoakelgcbbbieaaZc
import Derived.RangeFuncNested
import Derived.RangeFuncBound
import Derived.RangeFuncCalls
import Derived.RangeFuncLeaves
import Derived.Shelf.Abstract
import Derived.Shelf.RegionOpen
import Derived.WalkKit
import Derived.OwnWalkIn
import Derived.TacticsInMore
import Derived.LoopNIn
import Derived.LoopIn
namespace Go.Proofs.Ytoakelgcbbbieaa
open Go.RowKit Go.Maps Go.Shelf Go.Proofs.YtoakelgcbbbieaaW.PrintWords Go.Proofs.YtoakelgcbbbieaaW.PrintLast Go.Proofs.YtoakelgcbbbieaaW.PrintMore
set_option linter.unusedVariables false
set_option linter.unusedSimpArgs false
set_option maxRecDepth 100000
attribute [local go_sem] Oper.semAt_some

/-- is class i below k -/
def mP' (xs : List S124) (k : Int) (i : Nat) : Bool := belowB xs (i : Int) k
/-- the first j classes' share of those below k -/
def unders (xs : List S124) (k : Int) (j : Nat) : List Int := ((List.range j).filter (mP' xs k)).map (fun (i : Nat) => (i : Int))

theorem Under_calls {w : World} (p : Option Addr) (k : Int) :
    Calls Try.prog 30 #[.pointer p, .int .i64 k] w fun e w' => e = .returned (.func (.func 66) #[] #[.pointer (some ⟨w.heap.size, 0, none⟩), .pointer (some ⟨w.heap.size + 1, 0, none⟩)]) ∧ w' = (w.alloc (.cells #[.pointer p] 25)).alloc (.cells #[.int .i64 k] 3) := by
  go_enter Try.func30, Try.ntmps30
  go_wp2
  go_ret
  exact ⟨rfl, rfl⟩

theorem grown_below {w w' : World} (h : Below w.heap.size w w') : w.grownBy w' none := ⟨h.os, h.tape, h.output, h.size, fun k hk _ => h.block k hk⟩

theorem Len_calls {w : World} {tb : Nat} {xs : List S124} {m : Int} (T : Tab w tb xs m) :
    Calls Try.prog 58 #[.pointer (some ⟨tb, 0, none⟩)] w fun e w' => e = .returned (.int .i64 xs.length) ∧ w = w' := by
  obtain ⟨⟨A, c, mb, N, D, h0, -⟩, -⟩ := T
  go_enter Try.func58, Try.ntmps58
  go_wp2
  go_ret
  exact ⟨rfl, rfl⟩
theorem Len_nil_calls (w : World) : Calls Try.prog 58 #[.pointer none] w fun e w' => e = .returned (.int .i64 0) ∧ w = w' := by
  go_enter Try.func58, Try.ntmps58
  go_wp2
  go_ret
  exact ⟨rfl, rfl⟩

theorem unders_succ (xs : List S124) (k : Int) (j : Nat) : unders xs k (j + 1) = if mP' xs k j = true then unders xs k j ++ [(j : Int)] else unders xs k j := by
  unfold unders
  rw [List.range_succ, List.filter_append, List.map_append]
  cases h : mP' xs k j <;> simp [h]
theorem unders_len (xs : List S124) (k : Int) (j : Nat) : (unders xs k j).length ≤ j := by
  unfold unders
  rw [List.length_map]
  refine Nat.le_trans (List.length_filter_le _ _) ?_
  simp

/-- below n₀ all is as it was, but for one block -/
structure But (n₀ b : Nat) (A B : World) : Prop where
  os : B.os = A.os
  tape : B.tape = A.tape
  output : B.output = A.output
  size : A.heap.size ≤ B.heap.size
  block : ∀ k, k < n₀ → k ≠ b → B.heap[k]? = A.heap[k]?
theorem But.trans {n₀ b : Nat} {A B C : World} (h : But n₀ b A B) (k : But n₀ b B C) : But n₀ b A C :=
  ⟨k.os.trans h.os, k.tape.trans h.tape, k.output.trans h.output, Nat.le_trans h.size k.size, fun i hi hb => (k.block i hi hb).trans (h.block i hi hb)⟩
theorem But.of_below {n₀ b B0 : Nat} {A B : World} (h : Below B0 A B) (hn : n₀ ≤ B0) : But n₀ b A B := ⟨h.os, h.tape, h.output, h.size, fun k hk _ => h.block k (Nat.lt_of_lt_of_le hk hn)⟩
theorem But.refl (n₀ b : Nat) (A : World) : But n₀ b A A := ⟨rfl, rfl, rfl, Nat.le_refl _, fun _ _ _ => rfl⟩
theorem But.cell {n₀ b : Nat} {A B : World} (h : But n₀ b A B) {g o : Nat} (hg : g < n₀) (hb : g ≠ b) : B.cell? ⟨g, o, none⟩ = A.cell? ⟨g, o, none⟩ := by simp [World.cell?, h.block g hg hb]
theorem But.below {n₀ b : Nat} {A B : World} (h : But n₀ b A B) {B0 : Nat} (h1 : B0 ≤ n₀) (h2 : B0 ≤ b) : Below B0 A B := ⟨h.os, h.tape, h.output, h.size, fun k hk => h.block k (by omega) (by omega)⟩
theorem But.putObj {n₀ b : Nat} (W : World) (l : Nat) (o : Obj) (hl : n₀ ≤ l) : But n₀ b W (W.putObj l o) :=
  ⟨rfl, rfl, rfl, by simp, fun k hk _ => World.putObj_heap_other (by omega)⟩

set_option maxHeartbeats 2000000 in
theorem under_in (n : Nat) (hn : 1 ≤ n) (l bt bk n₀ bn tb : Nat) (k : Int) (xs : List S124) (m : Int) (J Jx : List Int → World → Prop) (W : World) (hJ : AbidesFrom W.heap.size J)
    (hY : ∀ pre x W, J pre W → pre.length < xs.length → YieldAt Fence.wide (n - 1) Try.prog l #[.int .i64 x] W fun e W' =>
      (e = .returned (.bool true) ∧ J (pre ++ [x]) W' ∧ But n₀ bn W W') ∨ (e = .returned (.bool false) ∧ Jx (pre ++ [x]) W'))
    (hn0 : n₀ ≤ W.heap.size) (ht : W.cell? ⟨bt, 0, none⟩ = some (.pointer (some ⟨tb, 0, none⟩))) (hk : W.cell? ⟨bk, 0, none⟩ = some (.int .i64 k)) (hbt : bt < n₀) (hbk : bk < n₀) (ebt : bt ≠ bn) (ebk : bk ≠ bn) (T : ∀ W', But n₀ bn W W' → Tab W' tb xs m) (h0 : J [] W) :
    CallsIn Fence.wide n Try.prog 66 #[.func (.yield l) #[] #[], .pointer (some ⟨bt, 0, none⟩), .pointer (some ⟨bk, 0, none⟩)] W fun e W' => (∃ v, e = .returned v) ∧
      ((∃ ys, ys = unders xs k xs.length ∧ J ys W') ∨ (∃ pre, (∃ j, j ≤ xs.length ∧ pre = unders xs k j) ∧ Jx pre W')) := by
  have HT := Lib.hid T
  have HS := (T W (But.refl _ _ _)).short
  clear T
  have hJ' : ∀ pre A B, J pre A → Below A.heap.size A B → J pre B := fun pre A B h1 h2 => hJ pre A B none h1 (grown_below h2) (fun r e => by cases e)
  have HJ := Lib.hid hJ'
  have HY := Lib.hid hY
  clear hJ hJ' hY
  refine callsIn_of_wp Try.func66 rfl trivial ?_ rfl
  simp only [Try.ntmps66, List.size_toArray, List.length_cons, List.length_nil, Nat.reduceAdd, Nat.reduceSub, Array.replicate_succ, Array.replicate_zero, List.push_toArray, List.append_toArray, List.nil_append, List.cons_append]
  gi_wp2_with (refine ⟨trivial, ?_⟩; gi_at_call 58; refine (callsIn_wide.2 (Len_calls (HT.out W (But.refl _ _ _)))).mono ?_; rintro e w1 ⟨rfl, rfl⟩)
  gi_loopw [7] (fun i wr => ∃ j : Nat, j ≤ xs.length ∧ i = .int .i64 j ∧ J (unders xs k j) wr ∧ Hid (But n₀ bn W wr)) (fun i _ => xs.length - (intOf i).toNat)
  case atStart => exact ⟨0, Nat.zero_le _, rfl, h0, But.refl _ _ _⟩
  case round =>
    obtain ⟨j, hj, rfl, hJs, hnx⟩ := hrel
    by_cases hlt : j < xs.length
    · have hct := (hnx.out.cell (o := 0) hbt ebt).trans ht
      have hck := (hnx.out.cell (o := 0) hbk ebk).trans hk
      cases hp : mP' xs k j
      · have HP := Lib.hid (show belowB xs (j : Int) k = false from hp)
        have HU := Lib.hid (show unders xs k (j + 1) = unders xs k j by rw [unders_succ, hp]; rfl)
        clear hp
        gi_wp2_with (refine ⟨trivial, ?_⟩; gi_at_call 26; refine (callsIn_wide.2 (Below_calls (HT.out _ hnx.out) (j : Int) k)).mono ?_; rintro e w2 ⟨rfl, hB2⟩; rw [HP.out])
        refine ⟨fun _ h => (by cases h), ?_⟩
        have HJ2 := Lib.hid (HJ.out _ _ _ hJs hB2)
        have HB3 := Lib.hid (hnx.out.trans (But.of_below hB2 (Nat.le_trans hn0 hnx.out.size)))
        clear hB2
        gi_wp2
        go_roundw
        case rel => exact ⟨j + 1, by omega, by go_num, by rw [HU.out]; exact HJ2.out, HB3.out⟩
        case measure => simp [intOf]; omega
      · have HP := Lib.hid (show belowB xs (j : Int) k = true from hp)
        have HU := Lib.hid (show unders xs k (j + 1) = unders xs k j ++ [(j : Int)] by rw [unders_succ, hp]; rfl)
        clear hp
        gi_wp2_with (refine ⟨trivial, ?_⟩; gi_at_call 26; refine (callsIn_wide.2 (Below_calls (HT.out _ hnx.out) (j : Int) k)).mono ?_; rintro e w2 ⟨rfl, hB2⟩; rw [HP.out]; (have hJ2 := HJ.out _ _ _ hJs hB2); (obtain ⟨fn, tmps, assign, body, hy, hR⟩ := HY.out _ (j : Int) w2 hJ2 (by have := unders_len xs k j; omega)))
        have HB3 := Lib.hid (hnx.out.trans (But.of_below hB2 (Nat.le_trans hn0 hnx.out.size)))
        clear hB2 hJ2
        refine hR.mono ?_
        rintro e W3 (⟨rfl, hJ3, hk3⟩ | ⟨rfl, hJx3⟩)
        · gi_wp2
          go_roundw
          case rel => exact ⟨j + 1, by omega, by go_num, by rw [HU.out]; exact hJ3, HB3.out.trans hk3⟩
          case measure => simp [intOf]; omega
        · gi_wp2
          refine bodyPost_ret (results_none rfl _ _ _) rfl ?_
          exact ⟨⟨_, rfl⟩, .inr ⟨_, ⟨j + 1, by omega, HU.out.symm⟩, hJx3⟩⟩
    · obtain rfl : j = xs.length := by omega
      gi_wp2
      go_end0
      exact ⟨⟨_, rfl⟩, .inl ⟨_, rfl, hJs⟩⟩

theorem unders_prefix (xs : List S124) (k : Int) : ∀ j, j ≤ xs.length → unders xs k j <+: unders xs k xs.length := by
  intro j hj
  obtain ⟨d, hd⟩ : ∃ d, xs.length = j + d := ⟨xs.length - j, by omega⟩
  rw [hd]
  clear hd hj
  induction d with
  | zero => exact List.prefix_refl _
  | succ d ih =>
    refine List.IsPrefix.trans ih ?_
    rw [← Nat.add_assoc, unders_succ]
    split
    · exact List.prefix_append _ _
    · exact List.prefix_refl _

/-- the iterator keeps its word: all of them in order, or the first some -/
theorem under_stops {n : Nat} (hn : 1 ≤ n) {w : World} {tb bt bk bn : Nat} {xs : List S124} {m k : Int} (T : ∀ W', But w.heap.size bn w W' → Tab W' tb xs m) (ht : w.cell? ⟨bt, 0, none⟩ = some (.pointer (some ⟨tb, 0, none⟩))) (hk : w.cell? ⟨bk, 0, none⟩ = some (.int .i64 k)) (hbt : bt < w.heap.size) (hbk : bk < w.heap.size) (ebt : bt ≠ bn) (ebk : bk ≠ bn) :
    SeqStopsK Fence.wide n Try.prog 66 #[.pointer (some ⟨bt, 0, none⟩), .pointer (some ⟨bk, 0, none⟩)] (fun x : Int => #[Value.int .i64 x]) (But w.heap.size bn) (fun ys => ys = unders xs k xs.length) (fun pre => pre <+: unders xs k xs.length) xs.length w := fun l J Jx W hW hJ _ hY h0 => by
  refine (under_in n hn l bt bk w.heap.size bn tb k xs m J Jx W hJ hY hW.size ((hW.cell (p := ⟨bt, 0, none⟩) hbt).trans ht) ((hW.cell (p := ⟨bk, 0, none⟩) hbk).trans hk) hbt hbk ebt ebk (fun W' h' => T W' ((But.of_below hW (Nat.le_refl _)).trans h')) h0).mono ?_
  rintro e W' ⟨he, ⟨ys, rfl, hj⟩ | ⟨pre, ⟨j, hj, rfl⟩, hx⟩⟩
  · exact ⟨he, .inl ⟨_, rfl, hj⟩⟩
  · exact ⟨he, .inr ⟨_, unders_prefix xs k j hj, hx⟩⟩
end Go.Proofs.Ytoakelgcbbbieaa
