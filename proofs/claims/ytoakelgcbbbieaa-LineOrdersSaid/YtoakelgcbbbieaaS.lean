/- The super of a class, walked: for any table. -/
import Derived.Test.YtoakelgcbbbieaaT
namespace Go.Proofs.Ytoakelgcbbbieaa
open Go.RowKit Go.Maps Go.Proofs.YtoakelgcbbbieaaW.PrintWords Go.Proofs.YtoakelgcbbbieaaW.PrintLast Go.Proofs.YtoakelgcbbbieaaW.PrintMore
set_option linter.unusedVariables false
set_option linter.unusedSimpArgs false

/-- a class's super -/
def sup (xs : List S124) (i : Int) : Option Nat :=
  if 0 ≤ i ∧ i < xs.length then
    if (rd_T124 xs i).f1.f2.f0.toList.isEmpty = true then none else
    match fnd xs (rd_T124 xs i).f1.f2.f0 with
    | none => none
    | some k => if (rd_T124 xs k).f1.f0 = true then none else some k
  else none

/-- what a number that may be none is told as -/
abbrev optV (o : Option Nat) : Value := .tuple #[.int .i64 ((o.getD 0 : Nat) : Int), .bool o.isSome]

theorem fnd_lt {xs : List S124} {s : ByteArray} {k : Nat} (h : fnd xs s = some k) : k < xs.length := by
  unfold fnd at h
  exact (List.findIdx?_eq_some_iff_findIdx_eq.1 h).1

theorem mem_rd {xs : List S124} {i : Int} (h0 : 0 ≤ i) (h1 : i < xs.length) : rd_T124 xs i ∈ xs := by
  unfold rd_T124
  rw [List.getD_eq_getElem?_getD, List.getElem?_eq_getElem (by omega)]
  exact List.getElem_mem _

theorem Super_out {w : World} {tb : Nat} {xs : List S124} {m : Int} (T : Tab w tb xs m) (i : Int) (h : i < 0 ∨ xs.length ≤ i) :
    Calls Try.prog 47 #[.pointer (some ⟨tb, 0, none⟩), .int .i64 i] w fun e w' => e = .returned (.tuple #[.int .i64 0, .bool false]) ∧ Below w.heap.size w w' := by
  go_enter Try.func47, Try.ntmps47
  go_wp2_with (go_at_call 62; refine (At_out T i h).mono ?_; rintro e w1 ⟨rfl, hb⟩)
  go_ret2
  exact ⟨rfl, hb.alloc hb.size _⟩

theorem Super_calls {w : World} {tb : Nat} {xs : List S124} {m : Int} (T : Tab w tb xs m) (i : Int) :
    Calls Try.prog 47 #[.pointer (some ⟨tb, 0, none⟩), .int .i64 i] w fun e w' => e = .returned (optV (sup xs i)) ∧ Below w.heap.size w w' := by
  by_cases hin : 0 ≤ i ∧ i < xs.length
  · obtain ⟨h0, h1⟩ := hin
    by_cases hs : (rd_T124 xs i).f1.f2.f0.toList.isEmpty = true
    · have HE := Lib.hid (show sup xs i = none by unfold sup; rw [if_pos ⟨h0, h1⟩, if_pos hs])
      go_enter Try.func47, Try.ntmps47
      go_wp2_with (go_at_call 62; refine (At_in T i h0 h1).mono ?_; rintro e w1 ⟨A6, c6, A7, c7, A10, c10, rfl, hK, hb⟩)
      go_ret2
      exact ⟨by rw [HE.out]; rfl, hb.alloc hb.size _⟩
    · have HN := Lib.hid (T.names _ (mem_rd h0 h1)).2
      have hs' : (rd_T124 xs i).f1.f2.f0.toList.isEmpty = false := by simpa using hs
      cases hf : fnd xs (rd_T124 xs i).f1.f2.f0 with
      | none =>
        have HE := Lib.hid (show sup xs i = none by unfold sup; rw [if_pos ⟨h0, h1⟩, if_neg hs, hf])
        clear hs
        have HF := Lib.hid hf
        clear hf
        go_enter Try.func47, Try.ntmps47
        go_wp2_with (first
          | (go_at_call 62; refine (At_in T i h0 h1).mono ?_; rintro e w1 ⟨A6, c6, A7, c7, A10, c10, rfl, hK, hb⟩)
          | (go_at_call 61; refine (Find_calls (T.later (by exact hb.alloc hb.size _)) _ HN.out).mono ?_; rintro e w2 ⟨rfl, rfl⟩; rw [HF.out]))
        go_ret2
        exact ⟨by rw [HE.out]; rfl, hb.alloc hb.size _⟩
      | some k =>
        have hk := fnd_lt hf
        have hk0 : (0 : Int) ≤ (k : Int) := by omega
        have hk1 : (k : Int) < xs.length := by omega
        have HE := Lib.hid (show sup xs i = if (rd_T124 xs k).f1.f0 = true then none else some k by unfold sup; rw [if_pos ⟨h0, h1⟩, if_neg hs, hf])
        clear hs
        have HF := Lib.hid hf
        clear hf
        have H0 : 0 ≤ i ∧ i < xs.length := ⟨h0, h1⟩
        clear h0 h1 hk
        cases hm : (rd_T124 xs k).f1.f0
        all_goals
          go_enter Try.func47, Try.ntmps47
          go_wp2_with (go_at_call 62; refine (At_in T i H0.1 H0.2).mono ?_; rintro e w1 ⟨A6, c6, A7, c7, A10, c10, rfl, hK, hb⟩)
          refine (Find_calls (T.later (by exact hb.alloc hb.size _)) _ HN.out).mono ?_
          rintro e w2 ⟨rfl, rfl⟩
          rw [HF.out]
          go_wp2_with (go_at_call 62; refine (At_in (T.later (by exact hb.alloc hb.size _)) k hk0 hk1).mono ?_; rintro e w3 ⟨B6, d6, B7, d7, B10, d10, rfl, hK3, hb3⟩)
          go_ret2
          refine ⟨by rw [HE.out, hm]; rfl, ?_⟩
          have h1 := hb.alloc hb.size
          exact ((h1 _).trans (hb3.mono (h1 _).size)).alloc (Nat.le_trans (h1 _).size hb3.size) _
  · have HE := Lib.hid (show sup xs i = none by unfold sup; rw [if_neg hin])
    have h : i < 0 ∨ (xs.length : Int) ≤ i := by omega
    refine (Super_out T i h).mono ?_
    rintro e w1 ⟨rfl, hb⟩
    exact ⟨by rw [HE.out]; rfl, hb⟩
end Go.Proofs.Ytoakelgcbbbieaa
