/- The document's order of faults, rows of faults alike, and one fault put into its place, walked. -/
import Derived.Test.YtoakelgcbbbieaaSj
import Derived.Test.YtoakelgcbbbieaaZe
import Derived.Deep.RegionHeld3
namespace Go.Proofs.Ytoakelgcbbbieaa
open Go.RowKit Go.Maps Go.Shelf Go.Proofs.YtoakelgcbbbieaaW.PrintWords Go.Proofs.YtoakelgcbbbieaaW.PrintLast Go.Proofs.YtoakelgcbbbieaaW.PrintMore
set_option linter.unusedVariables false
set_option linter.unusedSimpArgs false
set_option maxRecDepth 100000
attribute [local go_sem] Oper.semAt_some
attribute [local go_sem ↓] Go.wp_at_zero Go.wp_at_succ

theorem ahead_calls (a b : S113) (W : World) : Calls Try.prog 95 #[fAgg a, fAgg b] W fun e w' => e = .returned (.bool (ltFB a b)) ∧ Below W.heap.size W w' := by
  by_cases h0 : a.f0 = b.f0
  · by_cases h1 : a.f1 = b.f1
    · have HE := Lib.hid (show ltFB a b = decide (a.f2 < b.f2) by
        rw [Bool.eq_iff_iff, ltFB_iff, decide_eq_true_iff]; unfold ltF; omega)
      have n0 : (a.f0 != b.f0) = false := by simp [h0]
      have n1 : (a.f1 != b.f1) = false := by simp [h1]
      go_enter Try.func95, Try.ntmps95
      go_wp2
      go_ret
      exact ⟨by rw [HE.out]; rfl, ((Below.refl _ _).alloc (Nat.le_refl _) _).alloc (by simp) _⟩
    · have HE := Lib.hid (show ltFB a b = decide (a.f1 < b.f1) by
        rw [Bool.eq_iff_iff, ltFB_iff, decide_eq_true_iff]; unfold ltF; omega)
      have n0 : (a.f0 != b.f0) = false := by simp [h0]
      have n1 : (a.f1 != b.f1) = true := by simp [h1]
      go_enter Try.func95, Try.ntmps95
      go_wp2
      go_ret
      exact ⟨by rw [HE.out]; rfl, ((Below.refl _ _).alloc (Nat.le_refl _) _).alloc (by simp) _⟩
  · have HE := Lib.hid (show ltFB a b = decide (a.f0 < b.f0) by
      rw [Bool.eq_iff_iff, ltFB_iff, decide_eq_true_iff]; unfold ltF; omega)
    have n0 : (a.f0 != b.f0) = true := by simp [h0]
    go_enter Try.func95, Try.ntmps95
    go_wp2
    go_ret
    exact ⟨by rw [HE.out]; rfl, ((Below.refl _ _).alloc (Nat.le_refl _) _).alloc (by simp) _⟩

def sameF (la lb : List S113) : Bool := decide (la = lb)

theorem at_F {w : World} {A : Option Addr} {n : Nat} {xs : List S113} (h : Kd.C k113 w A n xs) (k : Nat) (hk : k < xs.length) : ∃ ad, A = some ad ∧ w.cell? (ad.add (k * 3)) = some (.int .i64 xs[k].f0) ∧ w.cell? ⟨(ad.add (k * 3)).block, (ad.add (k * 3)).off + 1, none⟩ = some (.int .i64 xs[k].f1) ∧ w.cell? ⟨(ad.add (k * 3)).block, (ad.add (k * 3)).off + 2, none⟩ = some (.int .i64 xs[k].f2) := by
  obtain rfl := C_len h
  have := at_T113 h (k : Int) (by omega) (by omega)
  rw [Int.toNat_natCast, show rd_T113 xs (k : Int) = xs[k] by unfold rd_T113; rw [Int.toNat_natCast, List.getD_eq_getElem?_getD, List.getElem?_eq_getElem hk]; rfl] at this
  exact this

theorem SameF_calls {w : World} {A B : Option Addr} {n p c d : Nat} {la lb : List S113} (ha : Kd.C k113 w A n la) (hb : Kd.C k113 w B p lb) :
    Calls Try.prog 54 #[.slice A n c, .slice B p d] w fun e w' => e = .returned (.bool (sameF la lb)) ∧ Below w.heap.size w w' := by
  obtain rfl := C_len ha
  obtain rfl := C_len hb
  have hma := C_max ha
  have hmb := C_max hb
  have HA := Lib.hid ha
  have HB := Lib.hid hb
  clear ha hb
  by_cases hl : la.length = lb.length
  · rw [← hl]
    have HL := Lib.hid hl
    clear hl
    go_enter Try.func54, Try.ntmps54
    go_wp2
    go_loopw [13] (fun v13 wr => ∃ k : Nat, k ≤ la.length ∧ v13 = .int .i64 k ∧ Below w.heap.size w wr ∧ Hid (la.take k = lb.take k)) (fun v13 wr => la.length - (intOf v13).toNat)
    case atStart => exact ⟨0, Nat.zero_le _, rfl, Below.refl _ _, rfl⟩
    case round =>
      obtain ⟨k, hk, rfl, hBr, hall⟩ := hrel
      by_cases hlt : k < la.length
      · have hlt2 : k < lb.length := by rw [← HL.out]; exact hlt
        obtain ⟨ad, rfl, hc0, hc1, hc2⟩ := at_F HA.out k hlt
        obtain ⟨bd, rfl, hd0, hd1, hd2⟩ := at_F HB.out k hlt2
        replace hc0 := cell_later hBr hc0
        replace hc1 := cell_later hBr hc1
        replace hc2 := cell_later hBr hc2
        replace hd0 := cell_later hBr hd0
        replace hd1 := cell_later hBr hd1
        replace hd2 := cell_later hBr hd2
        obtain ⟨x, hx⟩ : ∃ x, x = la[k] := ⟨_, rfl⟩
        obtain ⟨y, hy⟩ : ∃ y, y = lb[k] := ⟨_, rfl⟩
        rw [← hx] at hc0 hc1 hc2
        rw [← hy] at hd0 hd1 hd2
        have HX := Lib.hid hx
        have HY := Lib.hid hy
        have HBr := Lib.hid hBr
        clear hx hy hBr
        have hE : ∀ w, (Op.equalIn 10000 113 (.agg #[.int .i64 x.f0, .int .i64 x.f1, .int .i64 x.f2]) (.agg #[.int .i64 y.f0, .int .i64 y.f1, .int .i64 y.f2])).run Try.prog w = .ok (decide (x = y)) w := fun w => f_eq x y w
        by_cases he : x = y
        · rw [decide_eq_true he] at hE
          have HN := Lib.hid (show la.take (k + 1) = lb.take (k + 1) by rw [List.take_succ_eq_append_getElem hlt, List.take_succ_eq_append_getElem hlt2, hall.out, ← HX.out, ← HY.out, he])
          go_wp2_with fail
          go_quiet (fail)
          go_wp2
          go_roundw
          case rel => exact ⟨k + 1, by omega, by go_num, pw_below_drewN HBr.out _, HN.out⟩
          case measure => simp [intOf]; omega
        · rw [decide_eq_false he] at hE
          have HE := Lib.hid (show sameF la lb = false by
            unfold sameF
            refine decide_eq_false fun e => he ?_
            rw [HX.out, HY.out]
            subst e
            rfl)
          go_wp2_with fail
          go_quiet (fail)
          go_wp2
          go_ret
          exact ⟨by rw [HE.out]; rfl, pw_below_drewN HBr.out _⟩
      · have HE := Lib.hid (show sameF la lb = true by
          have h1 := hall.out
          rw [List.take_of_length_le (by omega), List.take_of_length_le (by rw [← HL.out]; omega)] at h1
          exact decide_eq_true h1)
        go_wp2
        go_ret
        exact ⟨by rw [HE.out]; rfl, hBr⟩
  · have HE := Lib.hid (show sameF la lb = false from decide_eq_false fun e => hl (by rw [e]))
    go_enter Try.func54, Try.ntmps54
    go_wp2
    go_ret
    exact ⟨by rw [HE.out]; rfl, Below.refl _ _⟩
end Go.Proofs.Ytoakelgcbbbieaa
