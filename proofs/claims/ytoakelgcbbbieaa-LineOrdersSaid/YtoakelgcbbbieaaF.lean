/- The document's super, walked. -/
import Derived.Test.YtoakelgcbbbieaaE
namespace Go.Proofs.Ytoakelgcbbbieaa
open Go.RowKit Go.Maps Go.Proofs.YtoakelgcbbbieaaW.PrintWords Go.Proofs.YtoakelgcbbbieaaW.PrintLast Go.Proofs.YtoakelgcbbbieaaW.PrintMore
set_option linter.unusedVariables false
set_option linter.unusedSimpArgs false
set_option maxRecDepth 100000

theorem empty_size (s : ByteArray) : s.toList.isEmpty = ((s.size : Int) == 0) := by
  rw [toList_data, Bool.eq_iff_iff, List.isEmpty_iff, beq_iff_eq, ← List.length_eq_zero_iff, Array.length_toList]
  show s.size = 0 ↔ _
  omega

/-- what the walk asks of an entry of the document's table -/
theorem RAt {w : World} {A : Option Addr} {n : Nat} {xs : List S124} {rs : List S145} (h : Kd.C k145 w A n rs) (ag : Ag xs rs) (k : Nat) (hk : k < n) : ∃ ad, A = some ad ∧ w.cell? ⟨(ad.add (k * 11)).block, (ad.add (k * 11)).off + 1, none⟩ = some (.bool (rd_T124 xs k).f1.f0) ∧
    w.cell? ⟨(ad.add (k * 11)).block, (ad.add (k * 11)).off + 4, none⟩ = some (.string (rd_T124 xs k).f1.f2.f0) := by
  obtain ⟨ad, A6, c6, A7, c7, A10, c10, rfl, -, hx1, hx2, hx3, hx4, -⟩ := at_T145 h (k : Int) (by omega) (by omega)
  rw [Int.toNat_natCast] at hx1 hx4
  have hl := C_len h
  have hl2 := ag.len
  obtain ⟨h1, h2, h3⟩ := ag.at_ k (by omega)
  rw [h3] at hx1; rw [h2] at hx4
  exact ⟨ad, rfl, hx1, hx4⟩

theorem RSuper_calls {w : World} {A : Option Addr} {n c : Nat} {xs : List S124} {rs : List S145} (h : Kd.C k145 w A n rs) (ag : Ag xs rs) (i : Int) :
    Calls Try.prog 48 #[.slice A n c, .int .i64 i] w fun e w' => e = .returned (.int .i64 (optI (sup xs i))) ∧ w = w' := by
  have hl : n = xs.length := (C_len h).symm.trans ag.len
  have H := Lib.hid h
  have AG := Lib.hid ag
  have HL := Lib.hid hl
  clear h ag
  by_cases hin : 0 ≤ i ∧ i < xs.length
  · obtain ⟨k, rfl⟩ := Int.eq_ofNat_of_zero_le hin.1
    have hkn : (k : Int) < (n : Int) := by omega
    have hk0 : (0 : Int) ≤ (k : Int) := by omega
    clear hl
    obtain ⟨ad, rfl, hx1, hx4⟩ := RAt H.out AG.out k (by omega)
    have d1 : decide ((k : Int) < 0) = false := by simp
    have d2 : decide ((n : Int) ≤ (k : Int)) = false := by simp; omega
    have d2' : decide (n ≤ k) = false := by simp; omega
    cases hs : ((((rd_T124 xs k).f1.f2.f0.size : Nat) : Int) == 0)
    · have hnE : ¬ (rd_T124 xs k).f1.f2.f0.toList.isEmpty = true := by rw [empty_size, hs]; decide
      cases hf : fnd xs (rd_T124 xs k).f1.f2.f0 with
      | none =>
        have HE := Lib.hid (show sup xs k = none by unfold sup; rw [if_pos hin, if_neg hnE, hf])
        have HF := Lib.hid hf
        clear hf hin hnE
        go_enter Try.func48, Try.ntmps48
        go_wp2_with (go_at_call 63; refine (RFind_calls H.out AG.out _).mono ?_; rintro e w1 ⟨rfl, rfl⟩; rw [HF.out, optI_none])
        go_ret
        exact ⟨by rw [HE.out]; rfl, rfl⟩
      | some j =>
        have hj := fnd_lt hf
        have HE := Lib.hid (show sup xs k = if (rd_T124 xs j).f1.f0 = true then none else some j by unfold sup; rw [if_pos hin, if_neg hnE, hf])
        have HF := Lib.hid hf
        clear hf hin hnE
        obtain ⟨ad2, had, hy1, hy4⟩ := RAt H.out AG.out j (by rw [HL.out]; exact hj)
        injection had with had; subst had
        have hjn : (j : Int) < (n : Int) := by have := HL.out; omega
        have hj0 : (0 : Int) ≤ (j : Int) := by omega
        clear hj
        cases hm : (rd_T124 xs j).f1.f0
        all_goals
          go_enter Try.func48, Try.ntmps48
          go_wp2_with (go_at_call 63; refine (RFind_calls H.out AG.out _).mono ?_; rintro e w1 ⟨rfl, rfl⟩; rw [HF.out, optI_some])
          go_ret
          exact ⟨by rw [HE.out, hm]; rfl, rfl⟩
    · have HE := Lib.hid (show sup xs k = none by unfold sup; rw [if_pos hin, if_pos (by rw [empty_size, hs])])
      clear hin
      go_enter Try.func48, Try.ntmps48
      go_wp2
      go_ret
      exact ⟨by rw [HE.out]; rfl, rfl⟩
  · have HE := Lib.hid (show sup xs i = none by unfold sup; rw [if_neg hin])
    by_cases h0 : i < 0
    · have d1 : decide (i < 0) = true := by simp; omega
      clear hin hl
      go_enter Try.func48, Try.ntmps48
      go_wp2
      go_ret
      exact ⟨by rw [HE.out]; rfl, rfl⟩
    · have d1 : decide (i < 0) = false := by simp; omega
      have d2 : decide ((n : Int) ≤ i) = true := by simp; omega
      have d3 : (n : Int) ≤ i := by omega
      have d4 : 0 ≤ i := by omega
      clear hin hl h0
      go_enter Try.func48, Try.ntmps48
      go_wp2
      go_ret
      exact ⟨by rw [HE.out]; rfl, rfl⟩
end Go.Proofs.Ytoakelgcbbbieaa
