/- All entries of the table, as an iterator, where files and places are numbers that Go's int bears. -/
import Derived.Test.YtoakelgcbbbieaaSq
namespace Go.Proofs.Ytoakelgcbbbieaa
open Go.RowKit Go.Maps Go.Shelf Go.Proofs.YtoakelgcbbbieaaW.PrintWords Go.Proofs.YtoakelgcbbbieaaW.PrintLast Go.Proofs.YtoakelgcbbbieaaW.PrintMore
set_option linter.unusedVariables false
set_option linter.unusedSimpArgs false
set_option maxRecDepth 100000
attribute [local go_sem] Oper.semAt_some

/-- what a round is handed, its file and place borne by Go's int -/
structure AW where
  a : AE
  hw : wfI a.x.f0 ∧ wfI a.x.f1.f2.f1
def AW.key (a : AW) : Int × S124 := a.a.key
abbrev encW (a : AW) : Array Value := encA a.a

set_option maxHeartbeats 2000000 in
theorem all_inW (n : Nat) (hn : 1 ≤ n) (l bt n₀ tb : Nat) (xs : List S124) (m : Int) (J Jx : List AW → World → Prop) (W : World) (hJ : AbidesFrom W.heap.size J)
    (hY : ∀ pre x W, J pre W → pre.length < xs.length → YieldAt Fence.wide (n - 1) Try.prog l (encW x) W fun e W' =>
      (e = .returned (.bool true) ∧ J (pre ++ [x]) W' ∧ KpA n₀ bt W W') ∨ (e = .returned (.bool false) ∧ Jx (pre ++ [x]) W'))
    (ht : Boxed W bt 25 (.pointer (some ⟨tb, 0, none⟩))) (T : ∀ W', Below n₀ W W' → Tab W' tb xs m) (hG : ∀ x ∈ xs, wfI x.f0 ∧ wfI x.f1.f2.f1) (h0 : J [] W) :
    CallsIn Fence.wide n Try.prog 78 #[.func (.yield l) #[] #[], .pointer (some ⟨bt, 0, none⟩)] W fun e W' => (∃ v, e = .returned v) ∧
      ((∃ ys, ys.map AW.key = sees xs xs.length ∧ J ys W') ∨ (∃ pre, (∃ j, j ≤ xs.length ∧ pre.map AW.key = sees xs j) ∧ Jx pre W')) := by
  have HT := Lib.hid T
  have HS := (T W (Below.refl _ _)).short
  have hct := ht.cell
  have HBT := Lib.hid ht
  clear T ht
  have HY := Lib.hid hY
  clear hY
  refine callsIn_of_wp Try.func78 rfl trivial ?_ rfl
  simp only [Try.ntmps78, List.size_toArray, List.length_cons, List.length_nil, Nat.reduceAdd, Nat.reduceSub, Array.replicate_succ, Array.replicate_zero, List.push_toArray, List.append_toArray, List.nil_append, List.cons_append]
  gi_wp2_with (refine ⟨trivial, ?_⟩; gi_at_call 58; refine (callsIn_wide.2 (Len_calls (HT.out W (Below.refl _ _)))).mono ?_; rintro e w1 ⟨rfl, rfl⟩)
  clear hct
  gi_loopw [6] (fun i wr => ∃ j : Nat, j ≤ xs.length ∧ i = .int .i64 j ∧ (∃ ys, Hid (ys.map AW.key = sees xs j) ∧ J ys wr) ∧ Hid (KpA n₀ bt W wr)) (fun i _ => xs.length - (intOf i).toNat)
  case atStart => exact ⟨0, Nat.zero_le _, rfl, ⟨[], rfl, h0⟩, KpA.refl _ _ _⟩
  case round =>
    obtain ⟨j, hj, rfl, ⟨ys, hys, hJs⟩, hnx⟩ := hrel
    by_cases hlt : j < xs.length
    · have hct := (show Boxed wr bt 25 (.pointer (some ⟨tb, 0, none⟩)) from hnx.out.box.trans HBT.out).cell
      have T1 := HT.out _ hnx.out.bel
      have HG := Lib.hid (hG _ (mem_rd (xs := xs) (i := (j : Int)) (by omega) (by omega)))
      have HM := Lib.hid (T1.names _ (mem_rd (xs := xs) (i := (j : Int)) (by omega) (by omega))).2
      obtain ⟨⟨A, c, mb, N, D, g0, -, -, g3, -, -⟩, -⟩ := T1
      obtain ⟨ad, A6, c6, A7, c7, A10, c10, rfl, hx0, hx1, hx2, hx3, hx4, hx5, hx6, hx7, hx8, hx9, hx10, l6, g6, l7, g7, l10, g10⟩ := at_T124 g3 (j : Int) (by omega) (by omega)
      clear l6 g6 l7 g7 l10 g10 g3
      have hlen : ys.length = j := by have := congrArg List.length hys.out; rw [sees_len] at this; simpa using this
      obtain ⟨x, hx⟩ : ∃ x, x = rd_T124 xs (j : Int) := ⟨_, rfl⟩
      rw [← hx] at hx0 hx1 hx2 hx3 hx4 hx5 hx6 hx7 hx8 hx9 hx10 HM HG
      rw [Int.toNat_natCast] at hx0 hx1 hx2 hx3 hx4 hx5 hx6 hx7 hx8 hx9 hx10
      obtain ⟨a, ha⟩ : ∃ a : AW, a = ⟨⟨(j : Int), x, A6, c6, A7, c7, A10, c10, HM.out⟩, HG.out⟩ := ⟨_, rfl⟩
      have HU := Lib.hid (show (ys ++ [a]).map AW.key = sees xs (j + 1) by rw [sees_succ, ← hys.out, ← hx]; subst ha; simp [AW.key, AE.key, List.map_append])
      have hY1 := HY.out ys a wr hJs (by omega)
      subst ha
      obtain ⟨fn, tmps, assign, body, hy, hR⟩ := hY1
      dsimp only [encW, encA, eCells] at hy
      clear hx
      gi_wp2
      refine hR.mono ?_
      rintro e W3 (⟨rfl, hJ3, hk3⟩ | ⟨rfl, hJx3⟩)
      · gi_wp2
        go_roundw
        case rel => exact ⟨j + 1, by omega, by go_num, ⟨_, HU.out, hJ3⟩, hnx.out.trans hk3⟩
        case measure => simp [intOf]; omega
      · gi_wp2
        refine bodyPost_ret (results_none rfl _ _ _) rfl ?_
        exact ⟨⟨_, rfl⟩, .inr ⟨_, ⟨j + 1, by omega, HU.out⟩, hJx3⟩⟩
    · obtain rfl : j = xs.length := by omega
      gi_wp2
      go_end0
      exact ⟨⟨_, rfl⟩, .inl ⟨_, hys.out, hJs⟩⟩

/-- the iterator keeps its word: all of them in order, or the first some -/
theorem all_stopsW {n : Nat} (hn : 1 ≤ n) {w : World} {n₀ tb bt : Nat} {xs : List S124} {m : Int} (hn0 : n₀ ≤ w.heap.size) (T : ∀ W', Below n₀ w W' → Tab W' tb xs m) (hG : ∀ x ∈ xs, wfI x.f0 ∧ wfI x.f1.f2.f1) (ht : Boxed w bt 25 (.pointer (some ⟨tb, 0, none⟩))) :
    SeqStopsK Fence.wide n Try.prog 78 #[.pointer (some ⟨bt, 0, none⟩)] encW (KpA n₀ bt) (fun ys => ys.map AW.key = sees xs xs.length) (fun pre => ∃ j, j ≤ xs.length ∧ pre.map AW.key = sees xs j) xs.length w := fun l J Jx W hW hJ _ hY h0 => by
  refine (all_inW n hn l bt n₀ tb xs m J Jx W hJ hY ((hW.block bt ht.lt).trans ht) (fun W' h' => T W' ((hW.mono hn0).trans h')) hG h0).mono ?_
  rintro e W' ⟨he, ⟨ys, hys, hj⟩ | ⟨pre, hp, hx⟩⟩
  · exact ⟨he, .inl ⟨_, hys, hj⟩⟩
  · exact ⟨he, .inr ⟨_, hp, hx⟩⟩

end Go.Proofs.Ytoakelgcbbbieaa
