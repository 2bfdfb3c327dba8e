/- All entries of the table, as an iterator, walked for any loop's body; the fault of a class's super. -/
import Derived.Test.YtoakelgcbbbieaaZd
import Derived.RangeFuncBox
namespace Go.Proofs.Ytoakelgcbbbieaa
open Go.RowKit Go.Maps Go.Shelf Go.Proofs.YtoakelgcbbbieaaW.PrintWords Go.Proofs.YtoakelgcbbbieaaW.PrintLast Go.Proofs.YtoakelgcbbbieaaW.PrintMore
set_option linter.unusedVariables false
set_option linter.unusedSimpArgs false
set_option maxRecDepth 100000
attribute [local go_sem] Oper.semAt_some

/-- what a round is handed: a number and an entry -/
structure AE where
  j : Int
  x : S124
  A6 : Option Addr
  c6 : Nat
  A7 : Option Addr
  c7 : Nat
  A10 : Option Addr
  c10 : Nat
  hs : x.f1.f2.f0.size ≤ maxLen
def AE.key (a : AE) : Int × S124 := (a.j, a.x)
abbrev encA (a : AE) : Array Value := #[.int .i64 a.j, .agg (eCells a.x a.A6 a.c6 a.A7 a.c7 a.A10 a.c10)]
/-- the first j of them -/
def sees (xs : List S124) (j : Nat) : List (Int × S124) := (List.range j).map (fun (i : Nat) => ((i : Int), rd_T124 xs (i : Int)))
theorem sees_succ (xs : List S124) (j : Nat) : sees xs (j + 1) = sees xs j ++ [((j : Int), rd_T124 xs (j : Int))] := by
  unfold sees; rw [List.range_succ, List.map_append]; rfl
theorem sees_len (xs : List S124) (j : Nat) : (sees xs j).length = j := by simp [sees]

/-- below n₀ all is as it was, and so is one box -/
structure KpA (n₀ b : Nat) (A B : World) : Prop where
  bel : Below n₀ A B
  box : B.heap[b]? = A.heap[b]?
theorem KpA.refl (n₀ b : Nat) (A : World) : KpA n₀ b A A := ⟨Below.refl _ _, rfl⟩
theorem KpA.trans {n₀ b : Nat} {A B C : World} (h : KpA n₀ b A B) (k : KpA n₀ b B C) : KpA n₀ b A C := ⟨h.bel.trans k.bel, k.box.trans h.box⟩

theorem All_tbl_calls {w : World} (p : Option Addr) :
    Calls Try.prog 57 #[.pointer p] w fun e w' => e = .returned (.func (.func 78) #[] #[.pointer (some ⟨w.heap.size, 0, none⟩)]) ∧ w' = w.alloc (.cells #[.pointer p] 25) := by
  go_enter Try.func57, Try.ntmps57
  go_wp2
  go_ret
  exact ⟨rfl, rfl⟩

set_option maxHeartbeats 2000000 in
theorem all_in (n : Nat) (hn : 1 ≤ n) (l bt n₀ tb : Nat) (xs : List S124) (m : Int) (J Jx : List AE → World → Prop) (W : World) (hJ : AbidesFrom W.heap.size J)
    (hY : ∀ pre x W, J pre W → pre.length < xs.length → YieldAt Fence.wide (n - 1) Try.prog l (encA x) W fun e W' =>
      (e = .returned (.bool true) ∧ J (pre ++ [x]) W' ∧ KpA n₀ bt W W') ∨ (e = .returned (.bool false) ∧ Jx (pre ++ [x]) W'))
    (ht : Boxed W bt 25 (.pointer (some ⟨tb, 0, none⟩))) (T : ∀ W', Below n₀ W W' → Tab W' tb xs m) (h0 : J [] W) :
    CallsIn Fence.wide n Try.prog 78 #[.func (.yield l) #[] #[], .pointer (some ⟨bt, 0, none⟩)] W fun e W' => (∃ v, e = .returned v) ∧
      ((∃ ys, ys.map AE.key = sees xs xs.length ∧ J ys W') ∨ (∃ pre, (∃ j, j ≤ xs.length ∧ pre.map AE.key = sees xs j) ∧ Jx pre W')) := by
  have HT := Lib.hid T
  have HS := (T W (Below.refl _ _)).short
  have hct := ht.cell
  have HBT := Lib.hid ht
  clear T ht
  have HY := Lib.hid hY
  clear hY
  refine callsIn_of_wp Try.func78 rfl trivial ?_ rfl
  simp only [Try.ntmps78, List.size_toArray, List.length_cons, List.length_nil, Nat.reduceAdd, Nat.reduceSub, Array.replicate_succ, Array.replicate_zero, List.push_toArray, List.append_toArray, List.nil_append, List.cons_append]
  gi_wp2_with (refine ⟨trivial, ?_⟩; gi_at_call 58; refine (callsIn_wide.2 (Len_calls (HT.out W (Below.refl _ _)))).mono ?_; rintro e w1 ⟨rfl, rfl⟩)
  clear hct
  gi_loopw [6] (fun i wr => ∃ j : Nat, j ≤ xs.length ∧ i = .int .i64 j ∧ (∃ ys, Hid (ys.map AE.key = sees xs j) ∧ J ys wr) ∧ Hid (KpA n₀ bt W wr)) (fun i _ => xs.length - (intOf i).toNat)
  case atStart => exact ⟨0, Nat.zero_le _, rfl, ⟨[], rfl, h0⟩, KpA.refl _ _ _⟩
  case round =>
    obtain ⟨j, hj, rfl, ⟨ys, hys, hJs⟩, hnx⟩ := hrel
    by_cases hlt : j < xs.length
    · have hct := (show Boxed wr bt 25 (.pointer (some ⟨tb, 0, none⟩)) from hnx.out.box.trans HBT.out).cell
      have T1 := HT.out _ hnx.out.bel
      have HM := Lib.hid (T1.names _ (mem_rd (xs := xs) (i := (j : Int)) (by omega) (by omega))).2
      obtain ⟨⟨A, c, mb, N, D, g0, -, -, g3, -, -⟩, -⟩ := T1
      obtain ⟨ad, A6, c6, A7, c7, A10, c10, rfl, hx0, hx1, hx2, hx3, hx4, hx5, hx6, hx7, hx8, hx9, hx10, l6, g6, l7, g7, l10, g10⟩ := at_T124 g3 (j : Int) (by omega) (by omega)
      clear l6 g6 l7 g7 l10 g10 g3
      have hlen : ys.length = j := by have := congrArg List.length hys.out; rw [sees_len] at this; simpa using this
      obtain ⟨x, hx⟩ : ∃ x, x = rd_T124 xs (j : Int) := ⟨_, rfl⟩
      rw [← hx] at hx0 hx1 hx2 hx3 hx4 hx5 hx6 hx7 hx8 hx9 hx10 HM
      rw [Int.toNat_natCast] at hx0 hx1 hx2 hx3 hx4 hx5 hx6 hx7 hx8 hx9 hx10
      obtain ⟨a, ha⟩ : ∃ a : AE, a = ⟨(j : Int), x, A6, c6, A7, c7, A10, c10, HM.out⟩ := ⟨_, rfl⟩
      have HU := Lib.hid (show (ys ++ [a]).map AE.key = sees xs (j + 1) by rw [sees_succ, ← hys.out, ← hx]; subst ha; simp [AE.key, List.map_append])
      have hY1 := HY.out ys a wr hJs (by omega)
      subst ha
      obtain ⟨fn, tmps, assign, body, hy, hR⟩ := hY1
      dsimp only [encA, eCells] at hy
      clear hx
      gi_wp2
      refine hR.mono ?_
      rintro e W3 (⟨rfl, hJ3, hk3⟩ | ⟨rfl, hJx3⟩)
      · gi_wp2
        go_roundw
        case rel => exact ⟨j + 1, by omega, by go_num, ⟨_, HU.out, hJ3⟩, hnx.out.trans hk3⟩
        case measure => simp [intOf]; omega
      · gi_wp2
        refine bodyPost_ret (results_none rfl _ _ _) rfl ?_
        exact ⟨⟨_, rfl⟩, .inr ⟨_, ⟨j + 1, by omega, HU.out⟩, hJx3⟩⟩
    · obtain rfl : j = xs.length := by omega
      gi_wp2
      go_end0
      exact ⟨⟨_, rfl⟩, .inl ⟨_, hys.out, hJs⟩⟩

/-- the iterator keeps its word: all of them in order, or the first some -/
theorem all_stops {n : Nat} (hn : 1 ≤ n) {w : World} {n₀ tb bt : Nat} {xs : List S124} {m : Int} (hn0 : n₀ ≤ w.heap.size) (T : ∀ W', Below n₀ w W' → Tab W' tb xs m) (ht : Boxed w bt 25 (.pointer (some ⟨tb, 0, none⟩))) :
    SeqStopsK Fence.wide n Try.prog 78 #[.pointer (some ⟨bt, 0, none⟩)] encA (KpA n₀ bt) (fun ys => ys.map AE.key = sees xs xs.length) (fun pre => ∃ j, j ≤ xs.length ∧ pre.map AE.key = sees xs j) xs.length w := fun l J Jx W hW hJ _ hY h0 => by
  refine (all_in n hn l bt n₀ tb xs m J Jx W hJ hY ((hW.block bt ht.lt).trans ht) (fun W' h' => T W' ((hW.mono hn0).trans h')) h0).mono ?_
  rintro e W' ⟨he, ⟨ys, hys, hj⟩ | ⟨pre, hp, hx⟩⟩
  · exact ⟨he, .inl ⟨_, hys, hj⟩⟩
  · exact ⟨he, .inr ⟨_, hp, hx⟩⟩

/-! ### the fault of a class's super -/
def faultOf (xs : List S124) (i : Int) (s : ByteArray) : Int :=
  match fnd xs s with
  | none => 5
  | some k => if (rd_T124 xs k).f1.f0 = true then 9 else if circB xs i = true then 14 else 0

theorem fault_calls {w : World} {tb : Nat} {xs : List S124} {m : Int} (T : Tab w tb xs m) (i : Int) (s : ByteArray) (hs : s.size ≤ maxLen) :
    Calls Try.prog 75 #[.pointer (some ⟨tb, 0, none⟩), .int .i64 i, .string s] w fun e w' => e = .returned (.int .i64 (faultOf xs i s)) ∧ Below w.heap.size w w' := by
  have HT := Lib.hid T
  clear T
  cases hf : fnd xs s with
  | none =>
    have HE := Lib.hid (show faultOf xs i s = 5 by unfold faultOf; rw [hf])
    have HF := Lib.hid hf
    clear hf
    go_enter Try.func75, Try.ntmps75
    go_wp2_with fail
    refine (Find_calls HT.out s hs).mono ?_
    rintro e w2 ⟨rfl, rfl⟩
    rw [HF.out]
    go_wp2
    go_ret
    exact ⟨by rw [HE.out]; rfl, Below.refl _ _⟩
  | some k =>
    have hk := fnd_lt hf
    have hk0 : (0 : Int) ≤ (k : Int) := by omega
    have hk1 : (k : Int) < xs.length := by omega
    have HE := Lib.hid (show faultOf xs i s = if (rd_T124 xs k).f1.f0 = true then 9 else if circB xs i = true then 14 else 0 by unfold faultOf; rw [hf])
    have HF := Lib.hid hf
    clear hf hk
    cases hm : (rd_T124 xs k).f1.f0
    all_goals
      have HM := Lib.hid hm
      cases hc : circB xs i
      all_goals
        have HCC := Lib.hid hc
        clear hc
        go_enter Try.func75, Try.ntmps75
        go_wp2_with fail
        refine (Find_calls HT.out s hs).mono ?_
        rintro e w2 ⟨rfl, rfl⟩
        rw [HF.out]
        go_wp2_with fail
        refine (At_in HT.out k hk0 hk1).mono ?_
        rintro e w3 ⟨B6, d6, B7, d7, B10, d10, rfl, hK3, hb3⟩
        clear hK3
        go_wp2_with (go_at_call 52; refine (Circular_calls (HT.out.later (by exact hb3.alloc hb3.size _)) i).mono ?_; rintro e w4 ⟨rfl, hb4⟩; rw [HCC.out])
        go_ret
        first
          | exact ⟨by rw [HE.out, HM.out, HCC.out]; rfl, (hb3.alloc hb3.size _).trans (hb4.mono (hb3.alloc hb3.size _).size)⟩
          | exact ⟨by rw [HE.out, HM.out]; rfl, hb3.alloc hb3.size _⟩
end Go.Proofs.Ytoakelgcbbbieaa
