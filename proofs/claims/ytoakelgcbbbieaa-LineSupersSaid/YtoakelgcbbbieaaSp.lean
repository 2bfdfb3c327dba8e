/- The statement LineSupers, walked: for any heads and any number. -/
import Derived.Test.YtoakelgcbbbieaaSo
import Derived.Test.YtoakelgcbbbieaaXo
namespace Go.Proofs.Ytoakelgcbbbieaa
open Go.RowKit Go.Maps Go.Shelf Go.Proofs.YtoakelgcbbbieaaW.PrintWords Go.Proofs.YtoakelgcbbbieaaW.PrintLast Go.Proofs.YtoakelgcbbbieaaW.PrintMore
set_option linter.unusedVariables false
set_option linter.unusedSimpArgs false
set_option maxRecDepth 100000
attribute [local go_sem] Oper.semAt_some
attribute [local go_sem ↓] Go.wp_at_zero Go.wp_at_succ

theorem AgF_heads (hs : List S129) : AgF (entsH hs) (rentsH hs) := by
  unfold AgF entsH rentsH
  rw [List.map_map, List.map_map]
  rfl

theorem sameI_self (l : List Int) : sameI l l = true := decide_eq_true rfl
theorem sameF_self (l : List S113) : sameF l l = true := decide_eq_true rfl

set_option maxHeartbeats 1000000 in
theorem LineSupers_walk {w : World} {A : Option Addr} {n c : Nat} {hs : List S129} (h : Kd.C k129 w A n hs) (hn : ∀ x ∈ hs, okHead x) (i : Int) :
    Calls Try.prog 10 #[.slice A n c, .int .i64 i] w fun e w' => e = .returned (.bool true) ∧ Below w.heap.size w w' := by
  have H := Lib.hid h
  have HN := Lib.hid hn
  clear h hn
  go_enter Try.func10, Try.ntmps10
  go_wp2_with fail
  refine (alive15_calls _).mono ?_
  rintro e w1 ⟨rfl, hb1⟩
  go_wp2_with fail
  refine (large15_calls (Kd.C_below H.out hb1)).mono ?_
  rintro e w2 ⟨L, rfl, hL, hb2⟩
  have HB2 := Lib.hid (hb1.trans (hb2.mono hb1.size))
  have HL := Lib.hid hL
  clear hb1 hb2 hL
  cases L
  · go_wp2_with fail
    refine (Tables_calls (Kd.C_below H.out HB2.out) (by have := HL.out trivial; omega) (fun x hx => ⟨(HN.out x hx).1, (HN.out x hx).2.1⟩)).mono ?_
    rintro e w3 ⟨tb, R, d, rfl, hT, hd, hR, hB3⟩
    have HT := Lib.hid hT
    have HR := Lib.hid hR
    have HD := Lib.hid hd
    have HB3 := Lib.hid (show Below w.heap.size w w3 from HB2.out.trans (hB3.mono HB2.out.size))
    have HS := Lib.hid (show (entsH hs).length ≤ 1000000 by rw [entsH_len]; have := HL.out trivial; omega)
    clear hT hR hB3 hd
    go_wp2_with fail
    obtain ⟨w4, hw4⟩ : ∃ w4, w4 = w3.alloc (.cells #[.int .i64 i, .int .i64 0, .int .i64 1, .int .i64 2] 3) := ⟨_, rfl⟩
    have HK := Lib.hid (show w4.heap[w3.heap.size]? = some (.cells #[.int .i64 i, .int .i64 0, .int .i64 1, .int .i64 2] 3 (0, 0)) by rw [hw4]; exact heap_alloc_new _ _)
    have HB4 := Lib.hid (show Below w3.heap.size w3 w4 by rw [hw4]; exact (Below.refl _ _).alloc (Nat.le_refl _) _)
    rw [← hw4]
    clear hw4
    go_loopw [24] (fun v24 wr => ∃ k : Nat, k ≤ 4 ∧ v24 = .int .i64 k ∧ Hid (Below w4.heap.size w4 wr)) (fun v24 wr => 4 - (intOf v24).toNat)
    case atStart => exact ⟨0, by omega, rfl, Below.refl _ _⟩
    case round =>
      obtain ⟨k, hk, rfl, hBr⟩ := hrel
      have HBr := Lib.hid (HB4.out.trans (hBr.out.mono HB4.out.size))
      have HT1 := Lib.hid (HT.out.later HBr.out)
      have HR1 := Lib.hid (Kd.C_below HR.out HBr.out)
      by_cases hlt : k < 4
      · obtain ⟨x, hx⟩ : ∃ x : Int, wr.cell? ⟨w3.heap.size, k, none⟩ = some (.int .i64 x) := by
          match k, hlt with
          | 0, _ => exact ⟨i, cell_later hBr.out ((cell_blk HK.out 0).trans rfl)⟩
          | 1, _ => exact ⟨0, cell_later hBr.out ((cell_blk HK.out 1).trans rfl)⟩
          | 2, _ => exact ⟨1, cell_later hBr.out ((cell_blk HK.out 2).trans rfl)⟩
          | 3, _ => exact ⟨2, cell_later hBr.out ((cell_blk HK.out 3).trans rfl)⟩
        cases hsu : sup (entsH hs) x
        all_goals
          have HSU := Lib.hid hsu
          cases hci : circB (entsH hs) x
          all_goals
            have HCI := Lib.hid hci
            clear hsu hci
            go_wp2_with fail
            refine (Super_calls HT1.out x).mono ?_
            rintro e w5 ⟨rfl, hb5⟩
            rw [HSU.out]
            go_wp2_with fail
            refine (RSuper_calls (Kd.C_below HR1.out hb5) (Ag_heads hs) x).mono ?_
            rintro e w6 ⟨rfl, rfl⟩
            rw [HSU.out]
            simp only [optI]
            have HB5 := Lib.hid hb5
            clear hb5
            go_wp2_with fail
            refine (Line_calls (HT1.out.later HB5.out) x).mono ?_
            rintro e w7 ⟨v7, rfl, hR7, hb7⟩
            obtain ⟨A7, c7, rfl, -, hC7⟩ := Kd.R_reads hR7
            rw [len_ni] at hC7 ⊢
            have HC7 := Lib.hid hC7
            have HB7 := Lib.hid (HB5.out.trans (hb7.mono HB5.out.size))
            clear hR7 hC7 hb7
            go_wp2_with fail
            refine (RLine_calls (Kd.C_below HR1.out HB7.out) (Ag_heads hs) (by have := HS.out; omega) x).mono ?_
            rintro e w8 ⟨v8, rfl, hR8, hb8⟩
            obtain ⟨A8, c8, rfl, -, hC8⟩ := Kd.R_reads hR8
            rw [len_ni] at hC8 ⊢
            have HC7' := Lib.hid (Kd.C_below HC7.out hb8)
            have HC8 := Lib.hid hC8
            have HB8 := Lib.hid (HB7.out.trans (hb8.mono HB7.out.size))
            clear hR8 hC8 hb8
            go_wp2_with fail
            refine (Ints_calls HC7'.out HC8.out).mono ?_
            rintro e w9 ⟨rfl, hb9⟩
            rw [sameI_self]
            have HB9 := Lib.hid (HB8.out.trans (hb9.mono HB8.out.size))
            clear hb9
            go_wp2_with fail
            refine (Circular_calls (HT1.out.later HB9.out) x).mono ?_
            rintro e w10 ⟨rfl, hb10⟩
            rw [HCI.out]
            have HB10 := Lib.hid (HB9.out.trans (hb10.mono HB9.out.size))
            clear hb10
            go_wp2_with fail
            refine (RCircular_calls (Kd.C_below HR1.out HB10.out) (Ag_heads hs) (by have := HS.out; omega) x).mono ?_
            rintro e w11 ⟨rfl, hb11⟩
            rw [HCI.out]
            have HB11 := Lib.hid (HB10.out.trans (hb11.mono HB10.out.size))
            clear hb11
            go_wp2
            go_roundw
            case rel => exact ⟨k + 1, by omega, by go_num, hBr.out.trans (HB11.out.mono hBr.out.size)⟩
            case measure => simp [intOf]; omega
      · go_wp2_with fail
        refine (Faults_calls HT1.out HS.out).mono ?_
        rintro e w5 ⟨A5, c5, rfl, hC5, hb5⟩
        have HC5 := Lib.hid hC5
        have HB5 := Lib.hid hb5
        clear hC5 hb5
        go_wp2_with fail
        refine (RFaults_calls (Kd.C_below HR1.out HB5.out) (Ag_heads hs) (AgF_heads hs) HS.out).mono ?_
        rintro e w6 ⟨A6, c6, rfl, hC6, hb6⟩
        have HC6 := Lib.hid hC6
        have HC5' := Lib.hid (Kd.C_below HC5.out hb6)
        have HB6 := Lib.hid (HB5.out.trans (hb6.mono HB5.out.size))
        clear hC6 hb6
        go_wp2_with fail
        refine (SameF_calls HC5'.out HC6.out).mono ?_
        rintro e w7 ⟨rfl, hb7⟩
        rw [sameF_self]
        have HB7 := Lib.hid (HB6.out.trans (hb7.mono HB6.out.size))
        clear hb7
        go_wp2
        go_ret
        exact ⟨rfl, HB3.out.trans ((HBr.out.trans (HB7.out.mono HBr.out.size)).mono HB3.out.size)⟩
  · go_wp2
    go_ret
    exact ⟨rfl, HB2.out⟩
end Go.Proofs.Ytoakelgcbbbieaa
