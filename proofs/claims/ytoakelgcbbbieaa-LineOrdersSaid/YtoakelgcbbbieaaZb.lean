/- Rows of numbers alike, the document's circular, large heads and the chapter's example of lines, walked. -/
import Derived.Test.YtoakelgcbbbieaaZa
import Derived.Test.YtoakelgcbbbieaaWRepsOne
namespace Go.Proofs.Ytoakelgcbbbieaa
open Go.RowKit Go.Maps Go.Proofs.YtoakelgcbbbieaaW.PrintWords Go.Proofs.YtoakelgcbbbieaaW.PrintLast Go.Proofs.YtoakelgcbbbieaaW.PrintMore
set_option linter.unusedVariables false
set_option linter.unusedSimpArgs false
set_option maxRecDepth 100000
attribute [local go_sem ↓] Go.wp_at_zero Go.wp_at_succ

def sameI (la lb : List Int) : Bool := decide (la = lb)

theorem Ints_calls {w : World} {A B : Option Addr} {n p c d : Nat} {la lb : List Int} (ha : Kd.C (Kd.int .i64) w A n la) (hb : Kd.C (Kd.int .i64) w B p lb) :
    Calls Try.prog 49 #[.slice A n c, .slice B p d] w fun e w' => e = .returned (.bool (sameI la lb)) ∧ Below w.heap.size w w' := by
  obtain rfl := C_len ha
  obtain rfl := C_len hb
  have hma := C_max ha
  have hmb := C_max hb
  have HA := Lib.hid ha
  have HB := Lib.hid hb
  clear ha hb
  by_cases hl : la.length = lb.length
  · rw [← hl]
    have HL := Lib.hid hl
    clear hl
    go_enter Try.func49, Try.ntmps49
    go_wp2
    go_loopw [13] (fun v13 wr => ∃ k : Nat, k ≤ la.length ∧ v13 = .int .i64 k ∧ Below w.heap.size w wr ∧ Hid (la.take k = lb.take k)) (fun v13 wr => la.length - (intOf v13).toNat)
    case atStart => exact ⟨0, Nat.zero_le _, rfl, Below.refl _ _, rfl⟩
    case round =>
      obtain ⟨k, hk, rfl, hBr, hall⟩ := hrel
      by_cases hlt : k < la.length
      · have hlt2 : k < lb.length := by rw [← HL.out]; exact hlt
        obtain ⟨ad, rfl, hc⟩ := at_int HA.out k hlt
        obtain ⟨bd, rfl, hd⟩ := at_int HB.out k hlt2
        replace hc := cell_later hBr hc
        replace hd := cell_later hBr hd
        obtain ⟨x, hx⟩ : ∃ x, x = la[k] := ⟨_, rfl⟩
        obtain ⟨y, hy⟩ : ∃ y, y = lb[k] := ⟨_, rfl⟩
        rw [← hx] at hc
        rw [← hy] at hd
        have HX := Lib.hid hx
        have HY := Lib.hid hy
        have HBr := Lib.hid hBr
        clear hx hy hBr
        by_cases he : x = y
        · have HN := Lib.hid (show la.take (k + 1) = lb.take (k + 1) by rw [List.take_succ_eq_append_getElem hlt, List.take_succ_eq_append_getElem hlt2, hall.out, ← HX.out, ← HY.out, he])
          go_wp2_with fail
          go_quiet (fail)
          go_wp2
          go_roundw
          case rel => exact ⟨k + 1, by omega, by go_num, pw_below_drewN HBr.out _, HN.out⟩
          case measure => simp [intOf]; omega
        · have HE := Lib.hid (show sameI la lb = false by
            unfold sameI
            refine decide_eq_false fun e => he ?_
            rw [HX.out, HY.out]
            subst e
            rfl)
          go_wp2_with fail
          go_quiet (fail)
          go_wp2
          go_ret
          exact ⟨by rw [HE.out]; rfl, pw_below_drewN HBr.out _⟩
      · have HE := Lib.hid (show sameI la lb = true by
          have h1 := hall.out
          rw [List.take_of_length_le (by omega), List.take_of_length_le (by rw [← HL.out]; omega)] at h1
          exact decide_eq_true h1)
        go_wp2
        go_ret
        exact ⟨by rw [HE.out]; rfl, hBr⟩
  · have HE := Lib.hid (show sameI la lb = false from decide_eq_false fun e => hl (by rw [e]))
    go_enter Try.func49, Try.ntmps49
    go_wp2
    go_ret
    exact ⟨by rw [HE.out]; rfl, Below.refl _ _⟩

theorem large15_calls {w : World} {A : Option Addr} {n c : Nat} {hs : List S129} (h : Kd.C k129 w A n hs) :
    Calls Try.prog 25 #[.slice A n c] w (LPost w hs.length) := by
  obtain rfl := C_len h
  have hm := C_max h
  have H := Lib.hid h
  clear h
  go_enter Try.func25, Try.ntmps25
  go_wp2
  go_loopw [3, 8] (fun v3 v8 wr => ∃ (i : Nat) (s : Int), i ≤ hs.length ∧ v3 = .int .i64 s ∧ v8 = .int .i64 i ∧ i ≤ 31 ∧ Below w.heap.size w wr) (fun _ v8 wr => hs.length - (intOf v8).toNat)
  case atStart => exact ⟨0, 0, Nat.zero_le _, rfl, rfl, by omega, Below.refl _ _⟩
  case round =>
    obtain ⟨i, s, hi, rfl, rfl, hi3, hB⟩ := hrel
    by_cases hlt : i < hs.length
    · obtain ⟨ad, rfl, hx0, hx1, hx2, hx3, hx4⟩ := at_T129 H.out (i : Int) (by omega) (by omega)
      obtain ⟨x, hx⟩ : ∃ x, x = rd_T129 hs i := ⟨_, rfl⟩
      rw [← hx, Int.toNat_natCast] at hx0 hx1 hx2 hx3 hx4
      clear hx
      replace hx0 := cell_later hB hx0
      replace hx1 := cell_later hB hx1
      replace hx2 := cell_later hB hx2
      replace hx3 := cell_later hB hx3
      replace hx4 := cell_later hB hx4
      have hBa := Lib.hid (hB.alloc hB.size (.cells #[.string x.f0, .string x.f1, .bool x.f2, .int .i64 x.f3, .int .i64 x.f4] 129))
      go_wp2
      all_goals first
        | (go_ret; exact ⟨true, rfl, by simp, hBa.out⟩)
        | (go_roundw
           case rel => exact ⟨i + 1, _, by omega, rfl, by go_num, by omega, hBa.out⟩
           case measure => simp [intOf]; omega)
    · go_wp2
      go_ret
      exact ⟨false, rfl, fun _ => by omega, hB⟩

def ex15 : List S129 := [⟨⟨#[65]⟩, ⟨#[66]⟩, false, 0, 0⟩, ⟨⟨#[66]⟩, ⟨#[67]⟩, false, 0, 0⟩, ⟨⟨#[67]⟩, ⟨#[]⟩, false, 0, 0⟩, ⟨⟨#[68]⟩, ⟨#[68]⟩, false, 0, 0⟩]
theorem ex15_1 : lineOf (entsH ex15) 0 = [0, 1, 2] := by kernel_rfl
theorem ex15_2 : circB (entsH ex15) 3 = true := by kernel_rfl
theorem ex15_3 : circB (entsH ex15) 0 = false := by kernel_rfl
theorem ex15_4 : belowB (entsH ex15) 0 2 = true := by kernel_rfl
theorem ex15_names : ∀ x ∈ ex15, x.f0.size ≤ maxLen ∧ x.f1.size ≤ maxLen := by
  intro x hx
  simp only [ex15, List.mem_cons, List.not_mem_nil, or_false] at hx
  rcases hx with rfl | rfl | rfl | rfl <;> exact ⟨by show (_ : Nat) ≤ 2 ^ 63 - 1; simp [ByteArray.size], by show (_ : Nat) ≤ 2 ^ 63 - 1; simp [ByteArray.size]⟩

theorem alive15_calls (w : World) : Calls Try.prog 24 #[] w fun e w' => e = .returned (.bool true) ∧ Below w.heap.size w w' := by
  go_enter Try.func24, Try.ntmps24
  go_wp2_with fail
  refine (Tables_calls (hs := ex15) (C_blk (xs := ex15) (heap_alloc_new w (.cells #[.string ⟨#[65]⟩, .string ⟨#[66]⟩, .bool false, .int .i64 0, .int .i64 0, .string ⟨#[66]⟩, .string ⟨#[67]⟩, .bool false, .int .i64 0, .int .i64 0, .string ⟨#[67]⟩, .string ⟨#[]⟩, .bool false, .int .i64 0, .int .i64 0, .string ⟨#[68]⟩, .string ⟨#[68]⟩, .bool false, .int .i64 0, .int .i64 0] 129))
    ⟨rfl, fun j p hj => by
      match j, hj with
      | 0, hj => injection hj with hj; subst hj; exact k129_mk _ _
      | 1, hj => injection hj with hj; subst hj; exact k129_mk _ _
      | 2, hj => injection hj with hj; subst hj; exact k129_mk _ _
      | 3, hj => injection hj with hj; subst hj; exact k129_mk _ _
      | j + 4, hj => simp [ex15] at hj⟩ (by decide)) (by decide) ex15_names).mono ?_
  rintro e w1 ⟨tb, B, d, rfl, hT, hd, hC, hB⟩
  have HT := Lib.hid hT
  have HB := Lib.hid (show Below w.heap.size w w1 from ((Below.refl _ _).alloc (Nat.le_refl _) _).trans (hB.mono ((Below.refl _ _).alloc (Nat.le_refl _) _).size))
  clear hT hd hC hB
  go_wp2_with fail
  refine (Line_calls HT.out 0).mono ?_
  rintro e w2 ⟨v2, rfl, hR2, hb2⟩
  rw [ex15_1] at hR2
  obtain ⟨A2, c2, rfl, -, hC2⟩ := Kd.R_reads hR2
  rw [len_ni] at hC2 ⊢
  have HT2 := Lib.hid (HT.out.later hb2)
  have HB2 := Lib.hid (HB.out.trans (hb2.mono HB.out.size))
  have HC2 := Lib.hid hC2
  clear hb2 hC2 hR2
  go_wp2_with fail
  refine (Ints_calls (la := [0, 1, 2]) (lb := [0, 1, 2]) (Kd.C_alloc HC2.out _) (C_blk (xs := ([0, 1, 2] : List Int)) (heap_alloc_new w2 (.cells #[.int .i64 0, .int .i64 1, .int .i64 2] 3)) (Reps.one (show Kd.K (Kd.int .i64) _ (0 : Int) [.int .i64 0] from rfl) (Reps.one (show Kd.K (Kd.int .i64) _ (1 : Int) [.int .i64 1] from rfl) (Reps.one (show Kd.K (Kd.int .i64) _ (2 : Int) [.int .i64 2] from rfl) (Reps.none _ _)))) (by decide))).mono ?_
  rintro e w3 ⟨rfl, hb3⟩
  rw [show sameI [0, 1, 2] [0, 1, 2] = true from rfl]
  have HT3 := Lib.hid ((HT2.out.later ((Below.refl _ _).alloc (Nat.le_refl _) _)).later hb3)
  have HB3 := Lib.hid (show Below w.heap.size w w3 from (HB2.out.alloc HB2.out.size _).trans (hb3.mono (HB2.out.alloc HB2.out.size _).size))
  clear hb3
  go_wp2_with fail
  refine (Circular_calls HT3.out 3).mono ?_
  rintro e w4 ⟨rfl, hb4⟩
  rw [ex15_2]
  have HT4 := Lib.hid (HT3.out.later hb4)
  have HB4 := Lib.hid (HB3.out.trans (hb4.mono HB3.out.size))
  clear hb4
  go_wp2_with fail
  refine (Circular_calls HT4.out 0).mono ?_
  rintro e w5 ⟨rfl, hb5⟩
  rw [ex15_3]
  have HT5 := Lib.hid (HT4.out.later hb5)
  have HB5 := Lib.hid (HB4.out.trans (hb5.mono HB4.out.size))
  clear hb5
  go_wp2_with fail
  refine (Below_calls HT5.out 0 2).mono ?_
  rintro e w6 ⟨rfl, hb6⟩
  rw [ex15_4]
  have HB6 := Lib.hid (HB5.out.trans (hb6.mono HB5.out.size))
  clear hb6
  go_wp2
  go_ret
  exact ⟨rfl, HB6.out⟩
end Go.Proofs.Ytoakelgcbbbieaa
