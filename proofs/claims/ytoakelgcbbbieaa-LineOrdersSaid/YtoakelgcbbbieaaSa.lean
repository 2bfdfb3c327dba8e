/- How two numbers and two faults are held against each other, walked. -/
import Derived.Test.YtoakelgcbbbieaaZc
import Derived.Deep.RegionHeld3
namespace Go.Proofs.Ytoakelgcbbbieaa
open Go.RowKit Go.Maps Go.Proofs.YtoakelgcbbbieaaW.PrintWords Go.Proofs.YtoakelgcbbbieaaW.PrintLast Go.Proofs.YtoakelgcbbbieaaW.PrintMore
set_option linter.unusedVariables false
set_option linter.unusedSimpArgs false
set_option maxRecDepth 100000
attribute [local go_sem ↓] Go.wp_at_zero Go.wp_at_succ

def cmpI (x y : Int) : Int := if x < y then -1 else if y < x then 1 else 0
theorem isNaN_calls (x : Int) (w : World) : Calls Try.prog 105 #[.int .i64 x] w fun e w' => e = .returned (.bool false) ∧ w = w' := by
  go_enter Try.func105, Try.ntmps105
  go_wp2
  go_ret
  exact ⟨by simp, rfl⟩
theorem isNaNE_calls (x : Int) (w : World) : Calls Try.prog 106 #[.int .i64 x] w fun e w' => e = .returned (.bool false) ∧ w = w' := by
  go_enter Try.func106, Try.ntmps106
  go_wp2
  go_ret
  exact ⟨by simp, rfl⟩
theorem Compare_calls (x y : Int) (w : World) : Calls Try.prog 100 #[.int .i64 x, .int .i64 y] w fun e w' => e = .returned (.int .i64 (cmpI x y)) ∧ w = w' := by
  have HE := Lib.hid (show cmpI x y = if x < y then -1 else if y < x then 1 else 0 from rfl)
  go_enter Try.func100, Try.ntmps100
  go_wp2_with (go_at_call 105; refine (isNaN_calls _ _).mono ?_; rintro e w1 ⟨rfl, rfl⟩)
  all_goals go_ret
  all_goals exact ⟨by rw [HE.out]; first | (rw [if_pos (by omega)]; rfl) | (rw [if_neg (by omega), if_pos (by omega)]; rfl) | (rw [if_neg (by omega), if_neg (by omega)]; rfl), rfl⟩
theorem CompareE_calls (x y : Int) (w : World) : Calls Try.prog 101 #[.int .i64 x, .int .i64 y] w fun e w' => e = .returned (.int .i64 (cmpI x y)) ∧ w = w' := by
  have HE := Lib.hid (show cmpI x y = if x < y then -1 else if y < x then 1 else 0 from rfl)
  go_enter Try.func101, Try.ntmps101
  go_wp2_with (go_at_call 106; refine (isNaNE_calls _ _).mono ?_; rintro e w1 ⟨rfl, rfl⟩)
  all_goals go_ret
  all_goals exact ⟨by rw [HE.out]; first | (rw [if_pos (by omega)]; rfl) | (rw [if_neg (by omega), if_pos (by omega)]; rfl) | (rw [if_neg (by omega), if_neg (by omega)]; rfl), rfl⟩

/-- the first that is not 0 -/
def orI : List Int → Int
  | [] => 0
  | x :: l => if x = 0 then orI l else x
theorem orI_zero : ∀ {l : List Int} (k : Nat), (∀ j (h : j < l.length), j < k → l[j] = 0) → orI l = orI (l.drop k)
  | l, 0, _ => by rw [List.drop_zero]
  | [], k + 1, _ => by simp
  | x :: l, k + 1, h => by
    have h0 : x = 0 := h 0 (by simp) (by omega)
    show (if x = 0 then orI l else x) = _
    rw [if_pos h0, List.drop_succ_cons]
    exact orI_zero k (fun j hj hk => h (j + 1) (by simpa using hj) (by omega))

theorem Or_calls {w : World} {A : Option Addr} {n c : Nat} {l : List Int} (h : Kd.C (Kd.int .i64) w A n l) :
    Calls Try.prog 99 #[.slice A n c] w fun e w' => e = .returned (.int .i64 (orI l)) ∧ w = w' := by
  obtain rfl := C_len h
  have hm := C_max h
  have H := Lib.hid h
  clear h
  go_enter Try.func99, Try.ntmps99
  go_wp2
  go_loopw [8] (fun v8 wr => ∃ k : Nat, k ≤ l.length ∧ v8 = .int .i64 k ∧ w = wr ∧ Hid (∀ j (h : j < l.length), j < k → l[j] = 0)) (fun v8 wr => l.length - (intOf v8).toNat)
  case atStart => exact ⟨0, Nat.zero_le _, rfl, rfl, fun j h1 h2 => absurd h2 (Nat.not_lt_zero _)⟩
  case round =>
    obtain ⟨k, hk, rfl, rfl, hz⟩ := hrel
    by_cases hlt : k < l.length
    · obtain ⟨ad, rfl, hc⟩ := at_int H.out k hlt
      obtain ⟨x, hx⟩ : ∃ x, x = l[k] := ⟨_, rfl⟩
      rw [← hx] at hc
      have HX := Lib.hid hx
      clear hx
      by_cases h0 : x = 0
      · go_wp2
        go_roundw
        case rel =>
          refine ⟨k + 1, by omega, by go_num, by first | rfl | trivial, fun j h1 h2 => ?_⟩
          rcases Nat.lt_or_eq_of_le (Nat.le_of_lt_succ h2) with h3 | h3
          · exact hz.out j h1 h3
          · subst h3; rw [← HX.out]; exact h0
        case measure => simp [intOf]; omega
      · have HE := Lib.hid (show orI l = x by
          rw [orI_zero k hz.out, List.drop_eq_getElem_cons hlt, ← HX.out]
          show (if x = 0 then _ else x) = x
          rw [if_neg h0])
        go_wp2
        go_ret
        exact ⟨by rw [HE.out]; rfl, rfl⟩
    · have HE := Lib.hid (show orI l = 0 by rw [orI_zero k hz.out, List.drop_eq_nil_of_le (by omega)]; rfl)
      go_wp2
      go_ret
      exact ⟨by rw [HE.out]; rfl, rfl⟩
end Go.Proofs.Ytoakelgcbbbieaa
