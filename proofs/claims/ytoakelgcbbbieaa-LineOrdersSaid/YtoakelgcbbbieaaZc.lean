/- The document's circular, walked. -/
import Derived.Test.YtoakelgcbbbieaaZb
namespace Go.Proofs.Ytoakelgcbbbieaa
open Go.RowKit Go.Maps Go.Proofs.YtoakelgcbbbieaaW.PrintWords Go.Proofs.YtoakelgcbbbieaaW.PrintLast Go.Proofs.YtoakelgcbbbieaaW.PrintMore
set_option linter.unusedVariables false
set_option linter.unusedSimpArgs false
set_option maxRecDepth 100000
attribute [local go_sem ↓] Go.wp_at_zero Go.wp_at_succ

theorem circB_opt {xs : List S124} {i : Int} {last : Nat} {pre : List Nat} (hl : lineOf xs i = pre ++ [last]) : circB xs i = (optI (sup xs last) == i) := by
  have hi : 0 ≤ i := by
    apply Classical.byContradiction
    intro h
    unfold lineOf at hl
    rw [if_neg (fun h2 => h h2.1)] at hl
    simp at hl
  unfold circB
  rw [hl, List.getLast?_concat]
  show (match sup xs (last : Int) with | none => false | some k => (k : Int) == i) = _
  cases sup xs (last : Int) with
  | none => simp only [optI]; symm; rw [beq_eq_false_iff_ne]; omega
  | some k => rfl

theorem RCircular_calls {w : World} {A : Option Addr} {n c : Nat} {xs : List S124} {rs : List S145} (h : Kd.C k145 w A n rs) (ag : Ag xs rs) (hsh : xs.length ≤ 1000000000) (i : Int) :
    Calls Try.prog 53 #[.slice A n c, .int .i64 i] w fun e w' => e = .returned (.bool (circB xs i)) ∧ Below w.heap.size w w' := by
  have H := Lib.hid h
  have AG := Lib.hid ag
  have HS := Lib.hid hsh
  clear h ag hsh
  rcases List.eq_nil_or_concat (lineOf xs i) with hl | ⟨pre, last, hl⟩
  · have HL := Lib.hid hl
    have HC := Lib.hid (show circB xs i = false by unfold circB; rw [hl]; rfl)
    clear hl
    go_enter Try.func53, Try.ntmps53
    go_wp2_with (go_at_call 51; refine (RLine_calls H.out AG.out HS.out i).mono ?_; rw [HL.out]; rintro e w1 ⟨v, rfl, hR, hb⟩; obtain ⟨A, c, rfl, -, -⟩ := Kd.R_reads hR; clear hR)
    go_ret
    exact ⟨by rw [HC.out]; rfl, hb⟩
  · rw [List.concat_eq_append] at hl
    have HL := Lib.hid hl
    have hs := Lib.hid (circB_opt hl)
    clear hl
    go_enter Try.func53, Try.ntmps53
    go_wp2_with fail
    refine (RLine_calls H.out AG.out HS.out i).mono ?_
    rw [HL.out]
    rintro e w1 ⟨v, rfl, hR, hb⟩
    obtain ⟨A, c, rfl, -, hC⟩ := Kd.R_reads hR
    clear hR
    obtain ⟨ad, rfl, hc0⟩ := at_int hC pre.length (by simp [ni])
    have hmx := C_max hC
    rw [show (ni (pre ++ [last])).length = pre.length + 1 by simp [ni]] at hmx ⊢
    have hc : w1.cell? (ad.add pre.length) = some (.int .i64 last) := by rw [hc0]; simp [ni]
    clear hc0 hC
    have HB := Lib.hid hb
    clear hb
    go_wp2_with fail
    refine (RSuper_calls (Kd.C_below H.out HB.out) AG.out (last : Int)).mono ?_
    rintro e w2 ⟨rfl, rfl⟩
    obtain ⟨o, ho⟩ : ∃ o, o = optI (sup xs last) := ⟨_, rfl⟩
    rw [← ho] at hs ⊢
    clear ho
    go_wp2
    go_ret
    exact ⟨by rw [hs.out]; rfl, HB.out⟩
end Go.Proofs.Ytoakelgcbbbieaa
